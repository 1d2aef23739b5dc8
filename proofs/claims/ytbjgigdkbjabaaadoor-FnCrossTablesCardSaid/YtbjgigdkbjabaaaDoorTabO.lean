/- TabO: matches and texts that are drawn. Each contract holds for every argument, under the premises that it states. -/
import Derived.Test.YtbjgigdkbjabaaaDoorTabQ
namespace Go.Proofs.YtbjgigdkbjabaaaDoor
set_option linter.unusedSimpArgs false
set_option linter.unusedVariables false
set_option linter.unnecessarySimpa false
open Go.RowKit Go.ChangeShapes Go.WideShapes Go.ChangeAt Go.Joins

theorem chgSetN {lo hi : Nat} {w w' : World} (h : Chg lo hi w w') (p : Addr) (hp : w.heap.size ≤ p.block) (v : Value) : Chg lo hi w (w'.setCell p v) :=
  ⟨h.os, h.tape, h.output, by simpa using h.size, fun k hk hn => (Below.heap_setCell _ _ _ k (by omega)).trans (h.block k hk hn)⟩
theorem srcSetN {base b m : Nat} {w : World} (h : SrcP base b m w) (p : Addr) (hp : base ≤ p.block) (hne : p.block ≠ b) (v : Value) : SrcP base b m (w.setCell p v) :=
  h.chg (lo := p.block) (hi := p.block + 1) ⟨rfl, rfl, rfl, by simp, fun k hk hn => Below.heap_setCell _ _ _ k (by omega)⟩ hp (by omega)
theorem chgSet4 {lo hi : Nat} {w w' : World} (h : Chg lo hi w w') (g : Nat) (hp : w.heap.size ≤ g) (a b c d : Value) : Chg lo hi w ((((w'.setCell ⟨g, 0, none⟩ a).setCell ⟨g, 1, none⟩ b).setCell ⟨g, 2, none⟩ c).setCell ⟨g, 3, none⟩ d) :=
  chgSetN (chgSetN (chgSetN (chgSetN h _ hp _) _ hp _) _ hp _) _ hp _
theorem srcSet4 {base bb m : Nat} {w : World} (h : SrcP base bb m w) (g : Nat) (hp : base ≤ g) (hne : g ≠ bb) (a b c d : Value) : SrcP base bb m ((((w.setCell ⟨g, 0, none⟩ a).setCell ⟨g, 1, none⟩ b).setCell ⟨g, 2, none⟩ c).setCell ⟨g, 3, none⟩ d) :=
  srcSetN (srcSetN (srcSetN (srcSetN h _ hp hne _) _ hp hne _) _ hp hne _) _ hp hne _
/-- the cells of a match's block, over steps that change one other block -/
theorem cells_chg {lo hi g : Nat} {w w' : World} {cs : List Value} (h : Chg lo hi w w') (hb : BoxP g cs w) (hg : g < w.heap.size) (hn : g < lo ∨ hi ≤ g) : BoxP g cs w' := fun j v hv =>
  (World.cell?_of_block (w := w) (h.block g hg hn)).trans (hb j v hv)
set_option maxRecDepth 100000 in
set_option maxHeartbeats 16000000 in
theorem l26One_c (base b m : Nat) (w : World) (h : SrcP base b m w) (hm : m ≤ 100000) :
    Calls Tryd.prog 41 #[.pointer (some ⟨b, 0, none⟩)] w fun e w' => ∃ x : Mt, e = .returned x.val ∧ Small x ∧ SrcP base b (m + 20) w' ∧ Chg b (b + 1) w w' := by
  have HBL : Hid (b < w.heap.size ∧ base ≤ b) := h.lt
  have HS0 : Hid (SrcP base b m (w.alloc (.cells nilCells 45))) := h.below (below_alloc1 _ _)
  have HC0 : Hid (Chg b (b + 1) w (w.alloc (.cells nilCells 45))) := Chg.ofBelow (below_alloc1 _ _)
  have HK : Hid (∀ W, Chg b (b + 1) (w.alloc (.cells nilCells 45)) W → (W.cell? ⟨w.heap.size, 0, none⟩ = some (.int .i64 0) ∧ W.cell? ⟨w.heap.size, 1, none⟩ = some (.int .i64 0) ∧ W.cell? ⟨w.heap.size, 2, none⟩ = some (.int .i64 0) ∧ W.cell? ⟨w.heap.size, 3, none⟩ = some (.bool false)) ∧ ∀ o, W.frozen? ⟨w.heap.size, o, none⟩ = false) := fun W hW => by
    have hx := cells_chg hW (((Fr.start w).alloc nilCells 45).at 0 rfl : BoxP w.heap.size nilCells.toList _) (by simp) (by have := HBL.out; omega)
    exact ⟨⟨hx 0 _ rfl, hx 1 _ rfl, hx 2 _ rfl, hx 3 _ rfl⟩, fun o => (World.frozen?_of_block (w := w.alloc (.cells nilCells 45)) (hW.block w.heap.size (by simp) (by have := HBL.out; omega))).trans (by simp [go_sem])⟩
  clear h
  go_enter Tryd.func41, Tryd.ntmps41
  go_wp2_with fail
  refine (pick_c base b m 12 _ HS0.out (by omega) (by omega)).mono ?_
  rintro e w1 ⟨p, rfl, p0, p1, hs1, hc1⟩
  have HS1 := Lib.hid hs1
  have HC1 := Lib.hid hc1
  have hw1 : IntKind.i64.wrap (p + 1) = p + 1 := IntWalk.i64_in _ (by omega)
  clear hs1 hc1 HS0
  go_wp2_with fail
  refine (pick_c base b (m + 2) 11 _ HS1.out (by omega) (by omega)).mono ?_
  rintro e w2 ⟨q, rfl, q0, q1, hs2, hc2⟩
  have HS2 := Lib.hid hs2
  have HC2 := Lib.hid (HC1.out.trans hc2)
  have hw2 : IntKind.i64.wrap (p + 1 + q) = p + 1 + q := IntWalk.i64_in _ (by omega)
  obtain ⟨bb, hbb⟩ : ∃ bb, (p + 1 + q) % 12 = bb := ⟨_, rfl⟩
  have hpq : 0 ≤ p + 1 + q := by omega
  have hb0 : 0 ≤ bb ∧ bb < 12 := by omega
  clear hs2 hc2 HS1 HC1
  go_wp2_with fail
  refine (pick_c base b (m + 2 + 2) 3 _ HS2.out (by omega) (by omega)).mono ?_
  rintro e w3 ⟨s, rfl, t0, t1, hs3, hc3⟩
  have HS3 := Lib.hid hs3
  have HC3 := Lib.hid (HC2.out.trans hc3)
  clear hs3 hc3 HS2 HC2
  go_wp2_with fail
  refine (one_c base b (m + 2 + 2 + 2) 3 _ HS3.out (by omega) (by omega)).mono ?_
  rintro e w4 ⟨ff, rfl, hs4, hc4⟩
  obtain ⟨w5, hw5⟩ : ∃ W, W = w4.alloc (.cells #[.int .i64 p, .int .i64 bb, .int .i64 s, .bool ff] 45) := ⟨_, rfl⟩
  have HS5 : Hid (SrcP base b (m + 2 + 2 + 2 + 2) w5) := by rw [hw5]; exact hs4.below (below_alloc1 _ _)
  have HC5 : Hid (Chg b (b + 1) (w.alloc (.cells nilCells 45)) w5) := by rw [hw5]; exact (HC3.out.trans hc4).trans (Chg.ofBelow (below_alloc1 _ _))
  have HZ : Hid (w.heap.size < w4.heap.size) := by have h1 := HC3.out.size; have h2 := hc4.size; simp at h1; unfold Hid; omega
  have HG : Hid (∀ W, Chg b (b + 1) w5 W → (W.cell? ⟨w4.heap.size, 0, none⟩ = some (.int .i64 p) ∧ W.cell? ⟨w4.heap.size, 1, none⟩ = some (.int .i64 bb) ∧ W.cell? ⟨w4.heap.size, 2, none⟩ = some (.int .i64 s) ∧ W.cell? ⟨w4.heap.size, 3, none⟩ = some (.bool ff)) ∧ ∀ o, W.frozen? ⟨w4.heap.size, o, none⟩ = false) := by
    rw [hw5]
    exact fun W hW => by
      have hx := cells_chg hW (((Fr.start w4).alloc #[.int .i64 p, .int .i64 bb, .int .i64 s, .bool ff] 45).at 0 rfl : BoxP w4.heap.size [.int .i64 p, .int .i64 bb, .int .i64 s, .bool ff] _) (by simp) (by have := HBL.out; have := HZ.out; omega)
      exact ⟨⟨hx 0 _ rfl, hx 1 _ rfl, hx 2 _ rfl, hx 3 _ rfl⟩, fun o => (World.frozen?_of_block (w := w4.alloc (.cells #[.int .i64 p, .int .i64 bb, .int .i64 s, .bool ff] 45)) (hW.block w4.heap.size (by simp) (by have := HBL.out; have := HZ.out; omega))).trans (by simp [go_sem])⟩
  clear hs4 hc4 HS3 HC3
  go_upto_region 3 with fail
  rw [← hw5]
  clear hw5
  go_wp2_with fail
  refine (pick_c base b (m + 2 + 2 + 2 + 2) 20 _ HS5.out (by omega) (by omega)).mono ?_
  rintro e w6 ⟨k, rfl, _, _, hs6, hc6⟩
  have HS6 := Lib.hid hs6
  have HC6 := Lib.hid (HC5.out.trans hc6)
  have HC56 := Lib.hid hc6
  have hne : ¬ w.heap.size = w4.heap.size := by have := HZ.out; omega
  have hne' : ¬ w4.heap.size = w.heap.size := by have := HZ.out; omega
  clear hs6 hc6 HS5 HC5
  by_cases e0 : k = 0
  · subst e0
    have HS6a : Hid (SrcP base b (m + 2 + 2 + 2 + 2 + 2) (w6.alloc (.cells #[.int .i64 (-1), .int .i64 12] 2))) := HS6.out.below (below_alloc1 _ _)
    have HBXA : Hid (BoxP w6.heap.size ([-1, 12].map (Value.int .i64)) (w6.alloc (.cells #[.int .i64 (-1), .int .i64 12] 2))) := ((Fr.start w6).alloc #[.int .i64 (-1), .int .i64 12] 2).at 0 rfl
    have HC6a : Hid (Chg b (b + 1) (w.alloc (.cells nilCells 45)) (w6.alloc (.cells #[.int .i64 (-1), .int .i64 12] 2))) := HC6.out.trans (Chg.ofBelow (below_alloc1 _ _))
    have HC56a : Hid (Chg b (b + 1) w5 (w6.alloc (.cells #[.int .i64 (-1), .int .i64 12] 2))) := HC56.out.trans (Chg.ofBelow (below_alloc1 _ _))
    have HN6 : Hid (w6.heap.size ≠ b) := by have hz6 := HC6.out.size; have hz7 := HBL.out.1; rw [World.size_alloc] at hz6; intro e; omega
    go_wp2_with fail
    refine (among_c base b (m + 2 + 2 + 2 + 2 + 2) w6.heap.size [-1, 12] _ HS6a.out (by omega) HBXA.out HN6.out (by decide) (by decide)).mono ?_
    rintro e w7 ⟨x, hx, rfl, hs7, hc7⟩
    have HX : Hid (x = -1 ∨ x = 12) := by unfold Hid; simpa using hx
    have HS7 := Lib.hid hs7
    have HC7 := Lib.hid (HC6a.out.trans hc7)
    obtain ⟨⟨g0, g1, g2, g3⟩, gf⟩ := HG.out _ (HC56a.out.trans hc7)
    obtain ⟨⟨k0, k1, k2, k3⟩, kf⟩ := HK.out _ HC7.out
    have HSM : Hid (Small ⟨x, bb, s, ff⟩) := by have := HX.out; unfold Hid Small; dsimp only; omega
    have r0 : (w7.setCell ⟨w4.heap.size, 0, none⟩ (.int .i64 x)).cell? ⟨w.heap.size, 0, none⟩ = some (.int .i64 0) := (cell_other hne).trans k0
    have r1 : (w7.setCell ⟨w4.heap.size, 0, none⟩ (.int .i64 x)).cell? ⟨w.heap.size, 1, none⟩ = some (.int .i64 0) := (cell_other hne).trans k1
    have r2 : (w7.setCell ⟨w4.heap.size, 0, none⟩ (.int .i64 x)).cell? ⟨w.heap.size, 2, none⟩ = some (.int .i64 0) := (cell_other hne).trans k2
    have r3 : (w7.setCell ⟨w4.heap.size, 0, none⟩ (.int .i64 x)).cell? ⟨w.heap.size, 3, none⟩ = some (.bool false) := (cell_other hne).trans k3
    clear hs7 hc7 hx k0 k1 k2 k3
    go_wp2
    refine bodyPost_ret (v := Mt.val ⟨x, bb, s, ff⟩) (by simp [results, Tryd.results41, go_sem, Mt.val, Mt.cells, r0, r1, r2, r3]) rfl ⟨⟨x, bb, s, ff⟩, rfl, HSM.out, ?_, ?_⟩
    · exact srcSet4 (srcSetN (HS7.out.mono (by omega)) ⟨w4.heap.size, 0, none⟩ (by have := HBL.out; have := HZ.out; simp; omega) (by have := HBL.out; have := HZ.out; simp; omega) _) w.heap.size (by have := HBL.out; omega) (by have := HBL.out; omega) _ _ _ _
    · exact chgSet4 (HC0.out.trans (chgSetN HC7.out ⟨w4.heap.size, 0, none⟩ (by have := HZ.out; simp; omega) _)) w.heap.size (Nat.le_refl _) _ _ _ _
  have e0q : (k == 0) = false := by simpa using e0
  obtain ⟨⟨g0, g1, g2, g3⟩, gf⟩ := HG.out _ HC56.out
  obtain ⟨⟨k0, k1, k2, k3⟩, kf⟩ := HK.out _ HC6.out
  by_cases e1 : k = 1
  · subst e1
    have HSM : Hid (Small ⟨p, p, s, ff⟩) := by unfold Hid Small; dsimp only; omega
    have r0 : (w6.setCell ⟨w4.heap.size, 1, none⟩ (.int .i64 p)).cell? ⟨w.heap.size, 0, none⟩ = some (.int .i64 0) := (cell_other hne).trans k0
    have r1 : (w6.setCell ⟨w4.heap.size, 1, none⟩ (.int .i64 p)).cell? ⟨w.heap.size, 1, none⟩ = some (.int .i64 0) := (cell_other hne).trans k1
    have r2 : (w6.setCell ⟨w4.heap.size, 1, none⟩ (.int .i64 p)).cell? ⟨w.heap.size, 2, none⟩ = some (.int .i64 0) := (cell_other hne).trans k2
    have r3 : (w6.setCell ⟨w4.heap.size, 1, none⟩ (.int .i64 p)).cell? ⟨w.heap.size, 3, none⟩ = some (.bool false) := (cell_other hne).trans k3
    clear k0 k1 k2 k3
    go_wp2
    refine bodyPost_ret (v := Mt.val ⟨p, p, s, ff⟩) (by simp [results, Tryd.results41, go_sem, Mt.val, Mt.cells, r0, r1, r2, r3]) rfl ⟨⟨p, p, s, ff⟩, rfl, HSM.out, ?_, ?_⟩
    · exact srcSet4 (srcSetN (HS6.out.mono (by omega)) ⟨w4.heap.size, 1, none⟩ (by have := HBL.out; have := HZ.out; simp; omega) (by have := HBL.out; have := HZ.out; simp; omega) _) w.heap.size (by have := HBL.out; omega) (by have := HBL.out; omega) _ _ _ _
    · exact chgSet4 (HC0.out.trans (chgSetN HC6.out ⟨w4.heap.size, 1, none⟩ (by have := HZ.out; simp; omega) _)) w.heap.size (Nat.le_refl _) _ _ _ _
  have e1q : (k == 1) = false := by simpa using e1
  by_cases e2 : k = 2
  · subst e2
    have HSM : Hid (Small ⟨p, bb, 3, ff⟩) := by unfold Hid Small; dsimp only; omega
    have r0 : (w6.setCell ⟨w4.heap.size, 2, none⟩ (.int .i64 3)).cell? ⟨w.heap.size, 0, none⟩ = some (.int .i64 0) := (cell_other hne).trans k0
    have r1 : (w6.setCell ⟨w4.heap.size, 2, none⟩ (.int .i64 3)).cell? ⟨w.heap.size, 1, none⟩ = some (.int .i64 0) := (cell_other hne).trans k1
    have r2 : (w6.setCell ⟨w4.heap.size, 2, none⟩ (.int .i64 3)).cell? ⟨w.heap.size, 2, none⟩ = some (.int .i64 0) := (cell_other hne).trans k2
    have r3 : (w6.setCell ⟨w4.heap.size, 2, none⟩ (.int .i64 3)).cell? ⟨w.heap.size, 3, none⟩ = some (.bool false) := (cell_other hne).trans k3
    clear k0 k1 k2 k3
    go_wp2
    refine bodyPost_ret (v := Mt.val ⟨p, bb, 3, ff⟩) (by simp [results, Tryd.results41, go_sem, Mt.val, Mt.cells, r0, r1, r2, r3]) rfl ⟨⟨p, bb, 3, ff⟩, rfl, HSM.out, ?_, ?_⟩
    · exact srcSet4 (srcSetN (HS6.out.mono (by omega)) ⟨w4.heap.size, 2, none⟩ (by have := HBL.out; have := HZ.out; simp; omega) (by have := HBL.out; have := HZ.out; simp; omega) _) w.heap.size (by have := HBL.out; omega) (by have := HBL.out; omega) _ _ _ _
    · exact chgSet4 (HC0.out.trans (chgSetN HC6.out ⟨w4.heap.size, 2, none⟩ (by have := HZ.out; simp; omega) _)) w.heap.size (Nat.le_refl _) _ _ _ _
  have e2q : (k == 2) = false := by simpa using e2
  have HSM : Hid (Small ⟨p, bb, s, ff⟩) := by unfold Hid Small; dsimp only; omega
  have r0 := k0
  have r1 := k1
  have r2 := k2
  have r3 := k3
  go_wp2
  refine bodyPost_ret (v := Mt.val ⟨p, bb, s, ff⟩) (by simp [results, Tryd.results41, go_sem, Mt.val, Mt.cells, r0, r1, r2, r3]) rfl ⟨⟨p, bb, s, ff⟩, rfl, HSM.out, ?_, ?_⟩
  · exact srcSet4 (HS6.out.mono (by omega)) w.heap.size (by have := HBL.out; omega) (by have := HBL.out; omega) _ _ _ _
  · exact chgSet4 (HC0.out.trans (HC6.out)) w.heap.size (Nat.le_refl _) _ _ _ _

def spoilT : List ByteArray := [⟨#[32]⟩, ⟨#[48]⟩, ⟨#[45]⟩, ⟨#[120]⟩, ⟨#[49]⟩, ⟨#[57]⟩, ⟨#[46]⟩]
theorem spoilT_at {k : Nat} {x : ByteArray} (h : spoilT[k]? = some x) : ∃ X : List UInt8, x = ⟨X.toArray⟩ ∧ X.length = 1 := by
  have hm := List.mem_of_getElem? h
  simp only [spoilT, List.mem_cons, List.not_mem_nil, or_false] at hm
  rcases hm with rfl | rfl | rfl | rfl | rfl | rfl | rfl <;> exact ⟨[_], rfl, rfl⟩
set_option maxRecDepth 100000 in
set_option maxHeartbeats 16000000 in
theorem l01Spoil_c (base b m : Nat) (l : List UInt8) (w : World) (h : SrcP base b m w) (hm : m ≤ 100000) (hl : l.length ≤ 1000) :
    Calls Tryd.prog 46 #[.pointer (some ⟨b, 0, none⟩), .string ⟨l.toArray⟩] w fun e w' => ∃ u : List UInt8, e = .returned (.string ⟨u.toArray⟩) ∧ u.length ≤ l.length + 1 ∧ Chg b (b + 1) w w' := by
  have HBL : Hid (b < w.heap.size ∧ base ≤ b) := h.lt
  have HS := Lib.hid h
  have hsz : ∀ x : List UInt8, (ByteArray.mk x.toArray).size = x.length := str_size
  have hex := ByteArray.extract_mk
  have hap := ba_app
  clear h
  go_enter Tryd.func46, Tryd.ntmps46
  go_wp2_with fail
  refine (pick_c base b m 5 _ HS.out (by omega) (by omega)).mono ?_
  rintro e w1 ⟨k, rfl, _, _, hs1, hc1⟩
  have HS1 := Lib.hid hs1
  have HC1 := Lib.hid hc1
  clear hs1 hc1 HS
  by_cases e0 : k = 0
  · subst e0
    have hw1 : IntKind.i64.wrap ((l.length : Int) + 1) = (l.length : Int) + 1 := IntWalk.i64_in _ (by omega)
    go_wp2_with fail
    refine (pick_c base b (m + 2) ((l.length : Int) + 1) _ HS1.out (by omega) (by omega)).mono ?_
    rintro e w2 ⟨v, rfl, v0, v1, hs2, hc2⟩
    obtain ⟨v, rfl⟩ : ∃ n : Nat, v = (n : Int) := ⟨v.toNat, by omega⟩
    have hv : v ≤ l.length := by omega
    have hvI : (v : Int) ≤ (l.length : Int) := by omega
    obtain ⟨P, hP⟩ : ∃ P, l.take v = P := ⟨_, rfl⟩
    obtain ⟨Q, hQ⟩ : ∃ Q, l.drop v = Q := ⟨_, rfl⟩
    have hPl : P.length = v := by rw [← hP, List.length_take]; omega
    have hQl : Q.length = l.length - v := by rw [← hQ, List.length_drop]
    have hQt : Q.take (l.length - v) = Q := List.take_of_length_le (by omega)
    have HPL := Lib.hid hPl
    have HQL := Lib.hid hQl
    have HS2D : Hid (SrcP base b (m + 2 + 2) w2.drew) := hs2.below (Below.refl _ _).drew
    have HC2D : Hid (Chg b (b + 1) w w2.drew) := (HC1.out.trans hc2).trans (Chg.ofBelow (Below.refl _ _).drew)
    have n1 : ¬ 9223372036854775807 < P.length + 1 := by omega
    have n2 : ¬ 9223372036854775807 < P.length + 1 + Q.length := by omega
    clear hs2 hc2 HS1 HC1 hPl hQl
    go_wp2_with fail
    refine heldH (S := fun _ => True) (n := 12) (listed := #[false, false, false, false, false, false, false, false, false, false, false, false]) (by kernel_rfl) (by rfl) (by rfl) ?_ (fun hHeld => ?_)
    (focus ((try dsimp only); (first | done | ((trivial); done))))
    (refine takeH (i := 0) (v := ?_) (by decide +kernel) (by decide +kernel) (by kernel_rfl) (by rfl) (by exact fun _ _ _ h => h) (by rfl) ?_ (by assumption) ?_); rotate_left; (focus (intro w hSw; (try dsimp only at hSw); go_simp; (try with_reducible rfl); done)); (try simp only [Act.put, List.setIfInBounds_toArray, List.set_cons_zero, List.set_cons_succ])
    (refine takeH (i := 1) (v := ?_) (by decide +kernel) (by decide +kernel) (by kernel_rfl) (by rfl) (by exact fun _ _ _ h => h) (by rfl) ?_ (by assumption) ?_); rotate_left; (focus (intro w hSw; (try dsimp only at hSw); go_simp; (try with_reducible rfl); done)); (try simp only [Act.put, List.setIfInBounds_toArray, List.set_cons_zero, List.set_cons_succ])
    (refine takeH (i := 2) (v := ?_) (by decide +kernel) (by decide +kernel) (by kernel_rfl) (by rfl) (by exact fun _ _ _ h => h) (by rfl) ?_ (by assumption) ?_); rotate_left; (focus (intro w hSw; (try dsimp only at hSw); go_simp; (try with_reducible rfl); done)); (try simp only [Act.put, List.setIfInBounds_toArray, List.set_cons_zero, List.set_cons_succ])
    (refine takeH (i := 3) (v := ?_) (by decide +kernel) (by decide +kernel) (by kernel_rfl) (by rfl) (by exact fun _ _ _ h => h) (by rfl) ?_ (by assumption) ?_); rotate_left; (focus (intro w hSw; (try dsimp only at hSw); go_simp; (try with_reducible rfl); done)); (try simp only [Act.put, List.setIfInBounds_toArray, List.set_cons_zero, List.set_cons_succ])
    (refine takeH (i := 7) (v := ?_) (by decide +kernel) (by decide +kernel) (by kernel_rfl) (by rfl) (by exact fun _ _ _ h => h) (by rfl) ?_ (by assumption) ?_); rotate_left; (focus (intro w hSw; (try dsimp only at hSw); go_simp; (try with_reducible rfl); done)); (try simp only [Act.put, List.setIfInBounds_toArray, List.set_cons_zero, List.set_cons_succ])
    (refine takeH (i := 8) (v := ?_) (by decide +kernel) (by decide +kernel) (by kernel_rfl) (by rfl) (by exact fun _ _ _ h => h) (by rfl) ?_ (by assumption) ?_); rotate_left; (focus (intro w hSw; (try dsimp only at hSw); go_simp; (try with_reducible rfl); done)); (try simp only [Act.put, List.setIfInBounds_toArray, List.set_cons_zero, List.set_cons_succ])
    (refine takeH (i := 9) (v := ?_) (by decide +kernel) (by decide +kernel) (by kernel_rfl) (by rfl) (by exact fun _ _ _ h => h) (by rfl) ?_ (by assumption) ?_); rotate_left; (focus (intro w hSw; (try dsimp only at hSw); go_simp; (try with_reducible rfl); done)); (try simp only [Act.put, List.setIfInBounds_toArray, List.set_cons_zero, List.set_cons_succ])
    refine nextH (i := 4) (by decide +kernel) (by rfl) (by rfl) (fun K hK => ?_)
    (go_simp; (have HBX : Hid (BoxP w2.heap.size (spoilT.map Value.string) (w2.alloc (.cells #[.string ⟨#[32]⟩, .string ⟨#[48]⟩, .string ⟨#[45]⟩, .string ⟨#[120]⟩, .string ⟨#[49]⟩, .string ⟨#[57]⟩, .string ⟨#[46]⟩] 9)).drew) := ((Fr.start w2.drew).alloc #[.string ⟨#[32]⟩, .string ⟨#[48]⟩, .string ⟨#[45]⟩, .string ⟨#[120]⟩, .string ⟨#[49]⟩, .string ⟨#[57]⟩, .string ⟨#[46]⟩] 9).at 0 rfl); (have HS4 : Hid (SrcP base b (m + 2 + 2) (w2.alloc (.cells #[.string ⟨#[32]⟩, .string ⟨#[48]⟩, .string ⟨#[45]⟩, .string ⟨#[120]⟩, .string ⟨#[49]⟩, .string ⟨#[57]⟩, .string ⟨#[46]⟩] 9)).drew) := HS2D.out.below (below_alloc1 _ _)); (have HC4 : Hid (Chg b (b + 1) w (w2.alloc (.cells #[.string ⟨#[32]⟩, .string ⟨#[48]⟩, .string ⟨#[45]⟩, .string ⟨#[120]⟩, .string ⟨#[49]⟩, .string ⟨#[57]⟩, .string ⟨#[46]⟩] 9)).drew) := HC2D.out.trans (Chg.ofBelow (below_alloc1 _ _))); (have HN4 : Hid (w2.heap.size ≠ b) := by have hz := HC2D.out.size; have hz2 := HBL.out.1; intro e; have : w2.drew.heap.size = w2.heap.size := rfl; omega))
    refine hK.out _ _ ?_ (fun hHeld' => ?_)
    (focus ((try dsimp only); (first | done | ((trivial); done))))
    clear hK K hHeld
    have hHeld := hHeld'
    clear hHeld'
    (try simp only [Act.put, List.setIfInBounds_toArray, List.set_cons_zero, List.set_cons_succ])
    refine nextH (i := 5) (by decide +kernel) (by rfl) (by rfl) (fun K hK => ?_)
    (go_simp; go_at_call 77; (refine (text_c base b (m + 2 + 2) w2.heap.size spoilT _ HS4.out (by omega) HBX.out HN4.out (by decide) (by decide)).mono ?_); (rintro e w5 ⟨kk, xx, hkx, rfl, hs5, hc5⟩); (obtain ⟨X, rfl, hXl⟩ := spoilT_at hkx); (have HXL := Lib.hid hXl); (have n3 : ¬ 9223372036854775807 < P.length + X.length := by omega); (have n4 : ¬ 9223372036854775807 < P.length + X.length + Q.length := by omega); (have HC5 := Lib.hid (HC4.out.trans hc5)); (clear hs5 hc5 hkx))
    refine hK.out _ _ ?_ (fun hHeld' => ?_)
    (focus ((try dsimp only); (first | done | ((trivial); done))))
    clear hK K hHeld
    have hHeld := hHeld'
    clear hHeld'
    (try simp only [Act.put, List.setIfInBounds_toArray, List.set_cons_zero, List.set_cons_succ])
    (refine takeH (i := 6) (v := ?_) (by decide +kernel) (by decide +kernel) (by kernel_rfl) (by rfl) (by exact fun _ _ _ h => h) (by rfl) ?_ (by assumption) ?_); rotate_left; (focus (intro w hSw; (try dsimp only at hSw); go_simp; (try with_reducible rfl); done)); (try simp only [Act.put, List.setIfInBounds_toArray, List.set_cons_zero, List.set_cons_succ])
    (refine takeH (i := 10) (v := ?_) (by decide +kernel) (by decide +kernel) (by kernel_rfl) (by rfl) (by exact fun _ _ _ h => h) (by rfl) ?_ (by assumption) ?_); rotate_left; (focus (intro w hSw; (try dsimp only at hSw); go_simp; (try with_reducible rfl); done)); (try simp only [Act.put, List.setIfInBounds_toArray, List.set_cons_zero, List.set_cons_succ])
    (refine takeH (i := 11) (v := ?_) (by decide +kernel) (by decide +kernel) (by kernel_rfl) (by rfl) (by exact fun _ _ _ h => h) (by rfl) ?_ (by assumption) ?_); rotate_left; (focus (intro w hSw; (try dsimp only at hSw); go_simp; (try with_reducible rfl); done)); (try simp only [Act.put, List.setIfInBounds_toArray, List.set_cons_zero, List.set_cons_succ])
    refine wpAnyH_done (by decide +kernel) ?_ _
    clear hHeld HBX HS4 HC4 HN4 HS2D HC2D
    go_wp2
    go_ret
    refine ⟨_, by first | rfl | simp, ?_, HC5.out⟩
    have := HPL.out
    have := HQL.out
    have := HXL.out
    simp only [List.length_append]
    omega
  have e0q : (k == 0) = false := by simpa using e0
  by_cases e1 : k = 1
  · subst e1
    by_cases hn : l = []
    · subst hn
      clear hsz hex hap
      go_wp2
      go_ret
      exact ⟨[], rfl, by simp, HC1.out⟩
    have hie : l.isEmpty = false := by cases l with | nil => exact absurd rfl hn | cons a b => rfl
    have hp : 0 < l.length := List.length_pos_iff.2 hn
    go_wp2_with fail
    refine (pick_c base b (m + 2) (l.length : Int) _ HS1.out (by omega) (by omega)).mono ?_
    rintro e w2 ⟨v, rfl, v0, v1, hs2, hc2⟩
    obtain ⟨v, rfl⟩ : ∃ n : Nat, v = (n : Int) := ⟨v.toNat, by omega⟩
    have hv : v < l.length := by omega
    have hvI : (v : Int) ≤ (l.length : Int) := by omega
    have hv1I : (v : Int) + 1 ≤ (l.length : Int) := by omega
    have hw1 : IntKind.i64.wrap ((v : Int) + 1) = (v : Int) + 1 := IntWalk.i64_in _ (by omega)
    obtain ⟨P, hP⟩ : ∃ P, l.take v = P := ⟨_, rfl⟩
    obtain ⟨Q, hQ⟩ : ∃ Q, l.drop (v + 1) = Q := ⟨_, rfl⟩
    have hPl : P.length = v := by rw [← hP, List.length_take]; omega
    have hQl : Q.length = l.length - (v + 1) := by rw [← hQ, List.length_drop]
    have hQt : Q.take (l.length - (v + 1)) = Q := List.take_of_length_le (by omega)
    have HPL := Lib.hid hPl
    have HQL := Lib.hid hQl
    have HC2 := Lib.hid (HC1.out.trans hc2)
    have n2 : ¬ 9223372036854775807 < P.length + Q.length := by omega
    clear hs2 hc2 HS1 HC1 hPl hQl hn
    go_wp2_with fail
    go_quiet (fail)
    go_wp2
    go_ret
    refine ⟨_, by first | rfl | simp, ?_, HC2.out.trans (Chg.ofBelow (below_draws _ _ _))⟩
    have := HPL.out
    have := HQL.out
    simp only [List.length_append]
    omega
  have e1q : (k == 1) = false := by simpa using e1
  go_wp2
  go_ret
  exact ⟨l, rfl, by omega, HC1.out⟩

set_option maxRecDepth 100000 in
set_option maxHeartbeats 8000000 in
theorem DrawMatchText_c (ca : Option Addr) (cc : Nat) (bs : List Int) (w : World) (h : ByteP w.heap.size ca bs w) :
    Calls Tryd.prog 20 #[.slice ca bs.length cc] w fun e w' => ∃ x : Mt, e = .returned x.val ∧ Small x ∧ Below w.heap.size w w' := by
  have HB0 : Hid (Below w.heap.size w (w.alloc (.cells nilCells 45))) := below_alloc1 _ _
  have HBX : Hid (BoxP w.heap.size nilCells.toList (w.alloc (.cells nilCells 45))) := ((Fr.start w).alloc nilCells 45).at 0 rfl
  have HF := Lib.hid (l00From_cT w.heap.size ca cc bs (w.alloc (.cells nilCells 45)) (h.keep (fun k hk => HB0.out.block k hk)) (by simp))
  rw [World.size_alloc] at HF
  clear h
  go_enter Tryd.func20, Tryd.ntmps20
  go_wp2_with fail
  refine HF.out.mono ?_
  rintro e w1 ⟨rfl, hs1, hb1⟩
  have HX1 := Lib.hid (boxP_keep HBX.out (by rw [World.size_alloc]; exact hb1))
  have HF1 : Hid (∀ o, w1.frozen? ⟨w.heap.size, o, none⟩ = false) := fun o => (World.frozen?_of_block (w := w.alloc (.cells nilCells 45)) (hb1.block w.heap.size (by simp))).trans (by simp [go_sem])
  have HS1 := Lib.hid hs1
  have HB1 := Lib.hid (below_next HB0.out (by rw [World.size_alloc]; exact hb1))
  have HZ : Hid (w.heap.size + 1 ≤ w1.heap.size) := by have := hb1.size; unfold Hid; simpa using this
  clear hs1 hb1 HBX HF
  go_wp2_with fail
  refine (l26One_c w.heap.size (w.heap.size + 1) 0 _ HS1.out (by omega)).mono ?_
  rintro e w2 ⟨x, rfl, hsm, hs2, hc2⟩
  have hx := cells_chg hc2 HX1.out (by have := HZ.out; omega) (by omega)
  have k0 : w2.cell? ⟨w.heap.size, 0, none⟩ = some (.int .i64 0) := hx 0 _ rfl
  have k1 : w2.cell? ⟨w.heap.size, 1, none⟩ = some (.int .i64 0) := hx 1 _ rfl
  have k2 : w2.cell? ⟨w.heap.size, 2, none⟩ = some (.int .i64 0) := hx 2 _ rfl
  have k3 : w2.cell? ⟨w.heap.size, 3, none⟩ = some (.bool false) := hx 3 _ rfl
  have kf : ∀ o, w2.frozen? ⟨w.heap.size, o, none⟩ = false := fun o => (World.frozen?_of_block (w := w1) (hc2.block w.heap.size (by have := HZ.out; omega) (by omega))).trans (HF1.out o)
  have HBB : Hid (Below w.heap.size w w2) := hc2.below HB1.out (by omega)
  have HSM := Lib.hid hsm
  clear hx hs2 hc2 hsm HX1 HF1 HS1
  obtain ⟨xa, xb, xs, xf⟩ := x
  go_wp2
  refine bodyPost_ret (v := Mt.val ⟨xa, xb, xs, xf⟩) (by simp [results, Tryd.results20, go_sem, Mt.val, Mt.cells, k0, k1, k2, k3]) rfl ⟨_, rfl, HSM.out, ?_⟩
  exact (((HBB.out.setCell (Nat.le_refl _) _).setCell (Nat.le_refl _) _).setCell (Nat.le_refl _) _).setCell (Nat.le_refl _) _

theorem wordsT_len {x : Mt} (h : Small x) : (wordsT x).length ≤ 100 := by
  obtain ⟨h1, h2, h3⟩ := h
  have a := itoa_len (x := x.a) (by omega)
  have b := itoa_len (x := x.b) (by omega)
  have c := itoa_len (x := x.score) (by omega)
  unfold wordsT
  split <;> simp <;> omega
set_option maxRecDepth 100000 in
set_option maxHeartbeats 8000000 in
theorem DrawReadMatch_c (ca : Option Addr) (cc : Nat) (bs : List Int) (w : World) (h : ByteP w.heap.size ca bs w) :
    Calls Tryd.prog 23 #[.slice ca bs.length cc] w fun e w' => ∃ u : List UInt8, e = .returned (.string ⟨u.toArray⟩) ∧ u.length ≤ 1000000 ∧ Below w.heap.size w w' := by
  have HF := Lib.hid (l00From_cT w.heap.size ca cc bs w h (Nat.le_refl _))
  clear h
  go_enter Tryd.func23, Tryd.ntmps23
  go_wp2_with fail
  refine HF.out.mono ?_
  rintro e w1 ⟨rfl, hs1, hb1⟩
  have HS1 := Lib.hid hs1
  have HB1 := Lib.hid hb1
  clear hs1 hb1 HF
  go_wp2_with fail
  refine (l26One_c w.heap.size w.heap.size 0 _ HS1.out (by omega)).mono ?_
  rintro e w2 ⟨x, rfl, hsm, hs2, hc2⟩
  have HB2 : Hid (Below w.heap.size w w2) := hc2.below HB1.out (Nat.le_refl _)
  have HS2 : Hid (SrcP w.heap.size w.heap.size (0 + 20) (w2.alloc (.cells x.cells 45))) := hs2.below (below_alloc1 _ _)
  have HB3 : Hid (Below w.heap.size w (w2.alloc (.cells x.cells 45))) := below_next HB2.out (below_alloc1 _ _)
  have HBX : BoxP w2.heap.size x.cells.toList (w2.alloc (.cells x.cells 45)) := ((Fr.start w2).alloc x.cells 45).at 0 rfl
  have HT := Lib.hid (l26Text_c w2.heap.size 0 x (w2.alloc (.cells x.cells 45)) hsm (HBX 0 _ rfl) (HBX 1 _ rfl) (HBX 2 _ rfl) (HBX 3 _ rfl))
  have HLN := Lib.hid (wordsT_len hsm)
  obtain ⟨T, hT⟩ : ∃ T, T = wordsT x := ⟨_, rfl⟩
  rw [← hT] at HT HLN
  clear hs2 hc2 hsm HBX HS1 HB1 HB2 hT
  obtain ⟨xa, xb, xs, xf⟩ := x
  go_wp2_with fail
  refine HT.out.mono ?_
  rintro e w4 ⟨rfl, hb4⟩
  have HS4 := Lib.hid (HS2.out.below hb4)
  have HB4 := Lib.hid (below_next HB3.out hb4)
  clear hb4 HT HS2 HB3
  go_wp2_with fail
  refine (l01Spoil_c w.heap.size w.heap.size (0 + 20) T _ HS4.out (by omega) (by have := HLN.out; omega)).mono ?_
  rintro e w5 ⟨u, rfl, hul, hc5⟩
  have HE : Hid (u.length ≤ 1000000 ∧ Below w.heap.size w w5) := ⟨by have := HLN.out; omega, hc5.below HB4.out (Nat.le_refl _)⟩
  clear hul hc5 HS4 HB4
  go_wp2
  go_ret
  exact ⟨u, rfl, HE.out.1, HE.out.2⟩

end Go.Proofs.YtbjgigdkbjabaaaDoor
