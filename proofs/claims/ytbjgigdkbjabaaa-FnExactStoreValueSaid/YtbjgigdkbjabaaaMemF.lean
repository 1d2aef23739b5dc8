/- MemF: the places with little depth are emptied: both sides. Each contract holds for every argument, under the premises that it states. -/
import Derived.Test.YtbjgigdkbjabaaaMemE
namespace Go.Proofs.Ytbjgigdkbjabaaa
set_option linter.unusedSimpArgs false
set_option linter.unusedVariables false
set_option linter.unnecessarySimpa false
open Go.RowKit Go.ChangeShapes Go.WideShapes Go.ChangeAt Go.Joins

/-! ### in plain terms -/
def rZ : R := ⟨0, 0, false, false, false, false, false, 0, 0⟩
/-- a memory and a code, out of a call -/
def MRes2 (w : World) (y : (R × List Sl) × Int) (e : Ending) (w' : World) : Prop := ∃ (m : List (Sl × SA)) (a : Option Addr) (c : Nat), m.map Prod.fst = y.1.2 ∧ e = .returned (.tuple #[meVal y.1.1 a m.length c, .int .i64 y.2]) ∧ Pcs w' w.heap.size (slRL.pcs a c m) ∧ Below w.heap.size w w'
def fgI (d : Int) (x : Sl) : Sl := if x.used = true ∧ x.depth < d then Sl.nil else x
def fgS (d : Int) (x : Sl) : Sl := if x.depth < d then Sl.nil else x
def forgetP (r : R) (xs : List Sl) (d : Int) : (R × List Sl) × Int :=
  if meOk r xs = false then ((rZ, []), 1) else if inB d 0 9 = false then ((rZ, []), 2) else ((r, xs.map (fgI d)), 0)
theorem okAt_unused {r : R} {n : Nat} {i : Int} {x : Sl} (h : x.okAt r n i = true) (hu : x.used = false) : x = Sl.nil := by
  obtain ⟨used, pits, player, depth, value, bound⟩ := x
  simp only at hu
  subst hu
  simp only [Sl.okAt, if_pos, Bool.and_eq_true, decide_eq_true_eq, beq_iff_eq] at h
  obtain ⟨⟨⟨⟨h1, h2⟩, h3⟩, h4⟩, h5⟩ := h
  rw [Sl.nil, h2, h3, h4, h5, List.eq_nil_of_length_eq_zero h1]
theorem fg_same {r : R} {xs : List Sl} {d : Int} (h : meOk r xs = true) : xs.map (fgS d) = xs.map (fgI d) := by
  apply List.map_congr_left
  intro x hx
  obtain ⟨k, hk, rfl⟩ := List.mem_iff_getElem.1 hx
  have hok := okGo_at (k := k) (meOk_parts h).2.2 (List.getElem?_eq_getElem hk)
  unfold fgS fgI
  cases hu : xs[k].used
  · have := okAt_unused hok hu
    rw [this]
    simp only [Sl.nil]
    by_cases hd : (0 : Int) < d <;> simp [hd]
  · simp
/-- the places are gone through: the first k of them are done -/
structure FgSt (W1 wr : World) (base g c k : Nat) (xs : List Sl) (f : Sl → Sl) (m : List (Sl × SA)) : Prop where
  ml : m.length = xs.length
  mf : m.map Prod.fst = (xs.take k).map f ++ xs.drop k
  pc : Pcs wr base (slRL.pcs (some ⟨g, 0, none⟩) c m)
  cg : Chg g (g + 1) W1 wr
theorem FgSt.at {W1 wr : World} {base g c k : Nat} {xs : List Sl} {f : Sl → Sl} {m : List (Sl × SA)} (h : FgSt W1 wr base g c k xs f m) (hk : k < xs.length) : ∃ A, m[k]? = some (xs[k], A) := by
  have hkm : k < m.length := by rw [h.ml]; exact hk
  refine ⟨m[k].2, ?_⟩
  rw [List.getElem?_eq_getElem hkm]
  have h1 : (m.map Prod.fst)[k]? = some xs[k] := by
    rw [h.mf, List.getElem?_append_right (by simp; omega)]
    simp
    rw [show k - min k xs.length = 0 by omega, Nat.add_zero]
    simp [hk]
  rw [List.getElem?_map, List.getElem?_eq_getElem hkm] at h1
  simp at h1
  rw [← h1]
theorem FgSt.skip {W1 wr wr' : World} {base g c k : Nat} {xs : List Sl} {f : Sl → Sl} {m : List (Sl × SA)} (h : FgSt W1 wr base g c k xs f m) (hk : k < xs.length) (hf : f xs[k] = xs[k]) (hb : Below wr.heap.size wr wr') : FgSt W1 wr' base g c (k + 1) xs f m :=
  ⟨h.ml, by rw [h.mf, List.take_succ_eq_append_getElem hk, List.map_append, List.drop_eq_getElem_cons hk]; simp [hf], pcs_below h.pc hb, h.cg.trans (Chg.ofBelow hb)⟩
theorem FgSt.step {W1 wr wr' : World} {base g c k : Nat} {xs : List Sl} {f : Sl → Sl} {m : List (Sl × SA)} (h : FgSt W1 wr base g c k xs f m) (hb : Below wr.heap.size wr wr') : FgSt W1 wr' base g c k xs f m :=
  ⟨h.ml, h.mf, pcs_below h.pc hb, h.cg.trans (Chg.ofBelow hb)⟩
theorem FgSt.put {W1 wr w2 : World} {base g c k : Nat} {xs : List Sl} {f : Sl → Sl} {m : List (Sl × SA)} (h : FgSt W1 wr base g c k xs f m) (hk : k < xs.length) (hf : f xs[k] = Sl.nil) (hb : Below wr.heap.size wr w2) :
    FgSt W1 ((((((w2.setCell ⟨g, k * 6, none⟩ (.bool false)).setCell ⟨g, k * 6 + 1, none⟩ (.slice none 0 0)).setCell ⟨g, k * 6 + 2, none⟩ (.int .i64 0)).setCell ⟨g, k * 6 + 3, none⟩ (.int .i64 0)).setCell ⟨g, k * 6 + 4, none⟩ (.int .i64 0)).setCell ⟨g, k * 6 + 5, none⟩ (.int .i64 0)) base g c (k + 1) xs f (m.set k slNil) := by
  have hkm : k < m.length := by rw [h.ml]; exact hk
  refine ⟨by rw [List.length_set, h.ml], ?_, pcs_put h.pc hb hkm Sl.nil ⟨none, 0⟩ (World.ownsRow_nil _ _ _ _), h.cg.trans ((Chg.ofBelow hb).trans ((((((chg_set w2 g _ _).trans (chg_set _ g _ _)).trans (chg_set _ g _ _)).trans (chg_set _ g _ _)).trans (chg_set _ g _ _)).trans (chg_set _ g _ _)))⟩
  rw [List.map_set, h.mf, List.take_succ_eq_append_getElem hk, List.map_append, List.set_append_right _ _ (by simp; omega), List.length_map, List.length_take, show k - min k xs.length = 0 by omega, List.drop_eq_getElem_cons hk, List.set_cons_zero]
  simp [slNil, hf]
theorem FgSt.done {W1 wr : World} {base g c k : Nat} {xs : List Sl} {f : Sl → Sl} {m : List (Sl × SA)} (h : FgSt W1 wr base g c k xs f m) (hk : ¬ k < xs.length) : m.map Prod.fst = xs.map f := by
  rw [h.mf, List.take_of_length_le (by omega), List.drop_eq_nil_of_le (by omega), List.append_nil]

set_option maxRecDepth 100000 in
set_option maxHeartbeats 8000000 in
theorem iForgetShallow_c (r : R) (l : List (Sl × SA)) (a : Option Addr) (c : Nat) (d : Int) (w : World) (h : SRows w a l) (hl : l.length ≤ 1048576) (hm : ∀ x ∈ l, x.1.pits.length ≤ 1048576) :
    Calls Try.prog 28 #[meVal r a l.length c, .int .i64 d] w (MRes2 w (forgetP r (l.map Prod.fst) d)) := by
  have F0 := ((Fr.start w).alloc #[.int .i64 r.pits, .int .i64 r.seeds, .bool r.stores, .bool r.skip, .bool r.relay, .bool r.feed, .bool r.again, .int .i64 r.capture, .int .i64 r.slam, .slice a l.length c] 52).allocF #[.int .i64 rZ.pits, .int .i64 rZ.seeds, .bool rZ.stores, .bool rZ.skip, .bool rZ.relay, .bool rZ.feed, .bool rZ.again, .int .i64 rZ.capture, .int .i64 rZ.slam, .slice none 0 0] 52
  simp only [World.size_alloc, rZ] at F0
  obtain ⟨W0, hW0⟩ : ∃ W, W = (w.alloc (.cells #[.int .i64 r.pits, .int .i64 r.seeds, .bool r.stores, .bool r.skip, .bool r.relay, .bool r.feed, .bool r.again, .int .i64 r.capture, .int .i64 r.slam, .slice a l.length c] 52)).alloc (.cells #[.int .i64 0, .int .i64 0, .bool false, .bool false, .bool false, .bool false, .bool false, .int .i64 0, .int .i64 0, .slice none 0 0] 52) := ⟨_, rfl⟩
  rw [← hW0] at F0
  have HF0 := Lib.hid F0
  have HC : Hid (∀ W, Below W0.heap.size W0 W → (W.cell? ⟨w.heap.size, 0, none⟩ = some (.int .i64 r.pits) ∧ W.cell? ⟨w.heap.size, 1, none⟩ = some (.int .i64 r.seeds) ∧ W.cell? ⟨w.heap.size, 2, none⟩ = some (.bool r.stores) ∧ W.cell? ⟨w.heap.size, 3, none⟩ = some (.bool r.skip) ∧ W.cell? ⟨w.heap.size, 4, none⟩ = some (.bool r.relay) ∧ W.cell? ⟨w.heap.size, 5, none⟩ = some (.bool r.feed) ∧ W.cell? ⟨w.heap.size, 6, none⟩ = some (.bool r.again) ∧ W.cell? ⟨w.heap.size, 7, none⟩ = some (.int .i64 r.capture) ∧ W.cell? ⟨w.heap.size, 8, none⟩ = some (.int .i64 r.slam) ∧ W.cell? ⟨w.heap.size, 9, none⟩ = some (.slice a l.length c)) ∧ BoxF (w.heap.size + 1) [.int .i64 0, .int .i64 0, .bool false, .bool false, .bool false, .bool false, .bool false, .int .i64 0, .int .i64 0, .slice none 0 0] W ∧ SRows W a l ∧ Below w.heap.size w W ∧ w.heap.size + 1 < W.heap.size) := fun W hW => by
    have F := HF0.out.step hW
    exact ⟨me_box (F.at 1 rfl), F.at 0 rfl, h.below F.below (Nat.le_refl _), F.below, F.le 0 rfl⟩
  have HW0 := Lib.hid hW0
  obtain ⟨Y, hY⟩ : ∃ Y, Y = forgetP r (l.map Prod.fst) d := ⟨_, rfl⟩
  rw [← hY]
  obtain ⟨b0, hb0⟩ : ∃ b, b = meOk r (l.map Prod.fst) := ⟨_, rfl⟩
  obtain ⟨b1, hb1⟩ : ∃ b, b = inB d 0 9 := ⟨_, rfl⟩
  have HE : Hid (Y = if b0 = false then ((rZ, []), 1) else if b1 = false then ((rZ, []), 2) else ((r, (l.map Prod.fst).map (fgI d)), 0)) := by unfold Hid; rw [hY, hb0, hb1, forgetP]
  obtain ⟨hM0, hX0, hS0, hBw0, hz0⟩ := HC.out W0 (Below.refl _ _)
  have H0 := Lib.hid (hb0 ▸ ValidMemory_c r l a c W0 hS0 hl hm)
  have H1 := Lib.hid (hb1 ▸ between_c d 0 9)
  have HOK : Hid (b0 = true → meOk r (l.map Prod.fst) = true) := fun e => by rw [← hb0, e]
  have HM := Lib.hid hm
  clear hb0 hb1 hY h hm hW0 F0 hS0 hBw0
  obtain ⟨c0, c1, c2, c3, c4, c5, c6, c7, c8, c9⟩ := hM0
  simp only [meVal, meCells]
  go_enter Try.func28, Try.ntmps28
  go_upto_region 1 with fail
  rw [← HW0.out]
  go_wp2_with fail
  refine H0.out.mono ?_
  rintro e w1 ⟨rfl, hb1⟩
  have HB := Lib.hid hb1
  obtain ⟨⟨c0, c1, c2, c3, c4, c5, c6, c7, c8, c9⟩, hX1, hs1, hBw1, hz1⟩ := HC.out _ hb1
  obtain ⟨x0, x1, x2, x3, x4, x5, x6, x7, x8, x9⟩ := (⟨hX1.1 0 _ rfl, hX1.1 1 _ rfl, hX1.1 2 _ rfl, hX1.1 3 _ rfl, hX1.1 4 _ rfl, hX1.1 5 _ rfl, hX1.1 6 _ rfl, hX1.1 7 _ rfl, hX1.1 8 _ rfl, hX1.1 9 _ rfl⟩ : _ ∧ _ ∧ _ ∧ _ ∧ _ ∧ _ ∧ _ ∧ _ ∧ _ ∧ _)
  have xf := hX1.2
  have HBw1 := Lib.hid hBw1
  have HS1 := Lib.hid hs1
  clear hb1 hs1 hBw1 hX1 hX0 hz0
  cases b0
  case false =>
    have HE2 := Lib.hid (HE.out.trans (if_pos rfl))
    go_wp2
    refine bodyPost_ret (v := .tuple #[meVal rZ none 0 0, .int .i64 1]) (by simp [results, Try.results28, go_sem, x0, x1, x2, x3, x4, x5, x6, x7, x8, x9, xf, hz1, meVal, meCells, rZ]) rfl ?_
    rw [HE2.out]
    refine ⟨[], none, 0, rfl, rfl, ⟨fun q hq => by obtain rfl := List.mem_singleton.1 hq; exact World.ownsRow_nil _ _ _ _, List.pairwise_singleton _ _⟩, ?_⟩
    have k0 := HBw1.out
    repeat (first | (with_reducible exact k0) | ((with_reducible refine Below.setCell ?_ ?_ _); rotate_left; (simp <;> omega)))
  have HE1 := Lib.hid (HE.out.trans (if_neg (by simp)))
  clear HE
  go_wp2_with fail
  refine (H1.out _).mono ?_
  rintro e w2 ⟨rfl, rfl⟩
  cases b1
  case false =>
    have HE2 := Lib.hid (HE1.out.trans (if_pos rfl))
    go_wp2
    refine bodyPost_ret (v := .tuple #[meVal rZ none 0 0, .int .i64 2]) (by simp [results, Try.results28, go_sem, x0, x1, x2, x3, x4, x5, x6, x7, x8, x9, xf, hz1, meVal, meCells, rZ]) rfl ?_
    rw [HE2.out]
    refine ⟨[], none, 0, rfl, rfl, ⟨fun q hq => by obtain rfl := List.mem_singleton.1 hq; exact World.ownsRow_nil _ _ _ _, List.pairwise_singleton _ _⟩, ?_⟩
    have k0 := HBw1.out
    repeat (first | (with_reducible exact k0) | ((with_reducible refine Below.setCell ?_ ?_ _); rotate_left; (simp <;> omega)))
  have HE2 : Hid (Y = ((r, (l.map Prod.fst).map (fgI d)), 0)) := HE1.out.trans (if_neg (by simp))
  obtain ⟨_, ⟨hn0, hn1⟩, _⟩ := meOk_parts (HOK.out (by simp))
  rw [List.length_map] at hn0 hn1
  have HQ := Lib.hid (mcopied_c r l a c w1 HS1.out (by omega) HM.out)
  clear HE1 H0 H1 HOK HS1
  go_wp2_with fail
  refine HQ.out.mono ?_
  rintro e w2 ⟨m, a2, cn, hmf, rfl, hp2, hb2⟩
  have hml : m.length = l.length := by have := congrArg List.length hmf; simpa using this
  obtain ⟨g, hg, hg1, hg2⟩ := own_lt_n (hp2.all _ (List.mem_cons_self ..)) (by omega)
  subst hg
  rw [hml]
  have hbw2 := below_next HB.out hb2
  obtain ⟨_, hX2, _, hBw2, hz2⟩ := HC.out _ hbw2
  have FX := (((Fr.from hBw2).add _ _ _ (BoxF.stab _ _) hX2 (by omega)).alloc #[.int .i64 r.pits, .int .i64 r.seeds, .bool r.stores, .bool r.skip, .bool r.relay, .bool r.feed, .bool r.again, .int .i64 r.capture, .int .i64 r.slam, .slice (some ⟨g, 0, none⟩) l.length cn] 52)
  obtain ⟨W1, hW1⟩ : ∃ W, W = w2.alloc (.cells #[.int .i64 r.pits, .int .i64 r.seeds, .bool r.stores, .bool r.skip, .bool r.relay, .bool r.feed, .bool r.again, .int .i64 r.capture, .int .i64 r.slam, .slice (some ⟨g, 0, none⟩) l.length cn] 52) := ⟨_, rfl⟩
  rw [← hW1] at FX
  have hp1 : Pcs W1 w1.heap.size (slRL.pcs (some ⟨g, 0, none⟩) cn m) := pcs_below hp2 (by rw [hW1]; exact below_alloc1 _ _)
  have hs1 : w2.heap.size < W1.heap.size := FX.le 0 rfl
  have HFX := Lib.hid FX
  have HKK : Hid (∀ W, Chg g (g + 1) W1 W → (W.cell? ⟨w2.heap.size, 0, none⟩ = some (.int .i64 r.pits) ∧ W.cell? ⟨w2.heap.size, 1, none⟩ = some (.int .i64 r.seeds) ∧ W.cell? ⟨w2.heap.size, 2, none⟩ = some (.bool r.stores) ∧ W.cell? ⟨w2.heap.size, 3, none⟩ = some (.bool r.skip) ∧ W.cell? ⟨w2.heap.size, 4, none⟩ = some (.bool r.relay) ∧ W.cell? ⟨w2.heap.size, 5, none⟩ = some (.bool r.feed) ∧ W.cell? ⟨w2.heap.size, 6, none⟩ = some (.bool r.again) ∧ W.cell? ⟨w2.heap.size, 7, none⟩ = some (.int .i64 r.capture) ∧ W.cell? ⟨w2.heap.size, 8, none⟩ = some (.int .i64 r.slam) ∧ W.cell? ⟨w2.heap.size, 9, none⟩ = some (.slice (some ⟨g, 0, none⟩) l.length cn)) ∧ BoxF (w.heap.size + 1) [.int .i64 0, .int .i64 0, .bool false, .bool false, .bool false, .bool false, .bool false, .int .i64 0, .int .i64 0, .slice none 0 0] W ∧ w.heap.size + 1 < W.heap.size ∧ w2.heap.size < W.heap.size ∧ Below w.heap.size w W) := fun W hW => by
    have hsz := hW.size
    exact ⟨me_box (BoxP.stab _ _ W1 W (HFX.out.at 0 rfl) (fun b h1 h2 => hW.block b (by omega) (by omega))), BoxF.stab _ _ W1 W (HFX.out.at 1 rfl) (fun b h1 h2 => hW.block b (by omega) (by omega)), by omega, by omega, hW.below HFX.out.below (by omega)⟩
  have HST0 : Hid (FgSt W1 W1 w1.heap.size g cn 0 (l.map Prod.fst) (fgI d) m) := ⟨by rw [hml, List.length_map], by rw [hmf]; rfl, hp1, Chg.refl _ _ _⟩
  have HNL : Hid ((l.map Prod.fst).length = l.length) := List.length_map _
  obtain ⟨xs, hxs⟩ : ∃ xs, xs = l.map Prod.fst := ⟨_, rfl⟩
  rw [← hxs] at HST0 HNL HE2
  have HW1 := Lib.hid hW1
  have HG : Hid (w.heap.size ≤ w1.heap.size ∧ g < w2.heap.size ∧ w1.heap.size ≤ g ∧ w2.heap.size < W1.heap.size) := ⟨by omega, hg2, hg1, hs1⟩
  obtain ⟨⟨o0, o1, o2, o3, o4, o5, o6, o7, o8, o9⟩, _, _, _, _⟩ := HKK.out W1 (Chg.refl _ _ _)
  clear hxs hmf hml hp2 hp1 hb2 hbw2 hX2 hBw2 FX hW1 HFX hs1 hg1 hg2 c0 c1 c2 c3 c4 c5 c6 c7 c8 c9 x0 x1 x2 x3 x4 x5 x6 x7 x8 x9 xf
  go_upto_region 6 with fail
  rw [← HW1.out]
  go_wp2_with fail
  clear o0 o1 o2 o3 o4 o5 o6 o7 o8 o9
  go_loopw [22] (fun i wr => ∃ (k : Nat) (m : List (Sl × SA)), i = .int .i64 k ∧ k ≤ l.length ∧ Hid (FgSt W1 wr w1.heap.size g cn k xs (fgI d) m)) (fun i _ => l.length - (intOf i).toNat)
  case atStart => exact ⟨0, m, rfl, Nat.zero_le _, HST0⟩
  case round =>
    clear HST0 m
    obtain ⟨k, m, rfl, hk, HST⟩ := hrel
    have HZ := Lib.hid (HKK.out wr HST.out.cg)
    by_cases hlt : k < l.length
    · have hkI : (k : Int) < (l.length : Int) := by omega
      have hltx : k < xs.length := by have := HNL.out; omega
      obtain ⟨A, hx⟩ := HST.out.at hltx
      have hp := HST.out.pc.mk'
      obtain ⟨x, hxx⟩ : ∃ x, x = xs[k] := ⟨_, rfl⟩
      rw [← hxx] at hx
      have HXX : Hid (∀ z, fgI d x = z → fgI d xs[k] = z ∧ xs[k] = x) := fun z hz => by rw [hxx] at hz; exact ⟨hz, hxx.symm⟩
      obtain ⟨used, pits, pl, dp, vl, bd⟩ := x
      obtain ⟨q0, f0⟩ : _ ∧ _ := RL.cell hp hx (i := 0) (by decide) rfl
      obtain ⟨q1, f1⟩ : _ ∧ _ := RL.cell hp hx (i := 1) (by decide) rfl
      obtain ⟨q2, f2⟩ : _ ∧ _ := RL.cell hp hx (i := 2) (by decide) rfl
      obtain ⟨q3, f3⟩ : _ ∧ _ := RL.cell hp hx (i := 3) (by decide) rfl
      obtain ⟨q4, f4⟩ : _ ∧ _ := RL.cell hp hx (i := 4) (by decide) rfl
      obtain ⟨q5, f5⟩ : _ ∧ _ := RL.cell hp hx (i := 5) (by decide) rfl
      simp only [show slRL.n = 6 from rfl, Nat.add_zero] at q0 f0 q1 f1 q2 f2 q3 f3 q4 f4 q5 f5
      have hgw : g < wr.heap.size := World.block_lt_of_cell? wr _ q0
      have gf := fun o => (RL.main hp).frozenAt o
      have o9 : wr.cell? ⟨w2.heap.size, 9, none⟩ = some (.slice (some ⟨g, 0, none⟩) l.length cn) := HZ.out.1.2.2.2.2.2.2.2.2.2
      have hob : w2.heap.size < wr.heap.size := HZ.out.2.2.2.1
      have hgne : ¬ g = wr.heap.size := by omega
      have HBA : Hid (∀ t, Below wr.heap.size wr (wr.alloc t)) := fun t => below_alloc1 _ _
      clear hxx hx hp f0 f1 f2 f3 f4 f5
      cases used
      · have hsk := Lib.hid (fun t => HST.out.skip hltx ((HXX.out _ (show fgI d ⟨false, pits, pl, dp, vl, bd⟩ = _ from by simp [fgI])).1.trans (HXX.out _ rfl).2.symm) (HBA.out t))
        go_wp2
        go_roundw
        case rel => exact ⟨k + 1, m, by go_num, by omega, Lib.hid (hsk.out _)⟩
        case measure => simp [intOf]; omega
      · by_cases hd : dp < d
        · have hpt := Lib.hid (fun t => (HST.out.put hltx (HXX.out _ (show fgI d ⟨true, pits, pl, dp, vl, bd⟩ = _ from by simp [fgI, hd])).1 (Below.refl _ _)).step (below_alloc1 _ t))
          go_wp2
          go_roundw
          case rel => exact ⟨k + 1, _, by go_num, by omega, Lib.hid (hpt.out _)⟩
          case measure => simp [intOf]; omega
        · have hsk := Lib.hid (fun t => HST.out.skip hltx ((HXX.out _ (show fgI d ⟨true, pits, pl, dp, vl, bd⟩ = _ from by simp [fgI, hd])).1.trans (HXX.out _ rfl).2.symm) (HBA.out t))
          go_wp2
          go_roundw
          case rel => exact ⟨k + 1, m, by go_num, by omega, Lib.hid (hsk.out _)⟩
          case measure => simp [intOf]; omega
    · have hkI : ¬ (k : Int) < (l.length : Int) := by omega
      have HMF := Lib.hid (HST.out.done (by have := HNL.out; omega))
      obtain ⟨⟨o0, o1, o2, o3, o4, o5, o6, o7, o8, o9⟩, hbz, hz1, hz2, hbw⟩ := HZ.out
      obtain ⟨x0, x1, x2, x3, x4, x5, x6, x7, x8, x9⟩ := (⟨hbz.1 0 _ rfl, hbz.1 1 _ rfl, hbz.1 2 _ rfl, hbz.1 3 _ rfl, hbz.1 4 _ rfl, hbz.1 5 _ rfl, hbz.1 6 _ rfl, hbz.1 7 _ rfl, hbz.1 8 _ rfl, hbz.1 9 _ rfl⟩ : _ ∧ _ ∧ _ ∧ _ ∧ _ ∧ _ ∧ _ ∧ _ ∧ _ ∧ _)
      have xf := hbz.2
      have HBW := Lib.hid hbw
      clear hbz hbw
      go_wp2
      refine bodyPost_ret (v := .tuple #[meVal r (some ⟨g, 0, none⟩) l.length cn, .int .i64 0]) (by simp [results, Try.results28, go_sem, x0, x1, x2, x3, x4, x5, x6, x7, x8, x9, xf, hz1, meVal, meCells]) rfl ?_
      rw [HE2.out]
      refine ⟨m, some ⟨g, 0, none⟩, cn, HMF.out, by rw [HST.out.ml, HNL.out], ?_, ?_⟩
      · have k0 := HST.out.pc
        refine Pcs.le (base := w1.heap.size) ?_ HG.out.1
        have := HG.out
        repeat (first | (with_reducible exact k0) | ((with_reducible refine Pcs.setBelow ?_ ?_ _); rotate_left; (have := HBw1.out.size; omega)))
      · have k0 := HBW.out
        repeat (first | (with_reducible exact k0) | ((with_reducible refine Below.setCell ?_ ?_ _); rotate_left; (simp <;> omega)))

set_option maxRecDepth 100000 in
set_option maxHeartbeats 8000000 in
theorem sForgetShallow_c (r : R) (l : List (Sl × SA)) (a : Option Addr) (c : Nat) (d : Int) (w : World) (h : SRows w a l) (hl : l.length ≤ 1048576) (hm : ∀ x ∈ l, x.1.pits.length ≤ 1048576) :
    Calls Try.prog 26 #[meVal r a l.length c, .int .i64 d] w (MRes2 w (forgetP r (l.map Prod.fst) d)) := by
  have F0 := ((Fr.start w).alloc #[.int .i64 r.pits, .int .i64 r.seeds, .bool r.stores, .bool r.skip, .bool r.relay, .bool r.feed, .bool r.again, .int .i64 r.capture, .int .i64 r.slam, .slice a l.length c] 52).allocF #[.int .i64 rZ.pits, .int .i64 rZ.seeds, .bool rZ.stores, .bool rZ.skip, .bool rZ.relay, .bool rZ.feed, .bool rZ.again, .int .i64 rZ.capture, .int .i64 rZ.slam, .slice none 0 0] 52
  simp only [World.size_alloc, rZ] at F0
  obtain ⟨W0, hW0⟩ : ∃ W, W = (w.alloc (.cells #[.int .i64 r.pits, .int .i64 r.seeds, .bool r.stores, .bool r.skip, .bool r.relay, .bool r.feed, .bool r.again, .int .i64 r.capture, .int .i64 r.slam, .slice a l.length c] 52)).alloc (.cells #[.int .i64 0, .int .i64 0, .bool false, .bool false, .bool false, .bool false, .bool false, .int .i64 0, .int .i64 0, .slice none 0 0] 52) := ⟨_, rfl⟩
  rw [← hW0] at F0
  have HF0 := Lib.hid F0
  have HC : Hid (∀ W, Below W0.heap.size W0 W → (W.cell? ⟨w.heap.size, 0, none⟩ = some (.int .i64 r.pits) ∧ W.cell? ⟨w.heap.size, 1, none⟩ = some (.int .i64 r.seeds) ∧ W.cell? ⟨w.heap.size, 2, none⟩ = some (.bool r.stores) ∧ W.cell? ⟨w.heap.size, 3, none⟩ = some (.bool r.skip) ∧ W.cell? ⟨w.heap.size, 4, none⟩ = some (.bool r.relay) ∧ W.cell? ⟨w.heap.size, 5, none⟩ = some (.bool r.feed) ∧ W.cell? ⟨w.heap.size, 6, none⟩ = some (.bool r.again) ∧ W.cell? ⟨w.heap.size, 7, none⟩ = some (.int .i64 r.capture) ∧ W.cell? ⟨w.heap.size, 8, none⟩ = some (.int .i64 r.slam) ∧ W.cell? ⟨w.heap.size, 9, none⟩ = some (.slice a l.length c)) ∧ BoxF (w.heap.size + 1) [.int .i64 0, .int .i64 0, .bool false, .bool false, .bool false, .bool false, .bool false, .int .i64 0, .int .i64 0, .slice none 0 0] W ∧ SRows W a l ∧ Below w.heap.size w W ∧ w.heap.size + 1 < W.heap.size) := fun W hW => by
    have F := HF0.out.step hW
    exact ⟨me_box (F.at 1 rfl), F.at 0 rfl, h.below F.below (Nat.le_refl _), F.below, F.le 0 rfl⟩
  have HW0 := Lib.hid hW0
  obtain ⟨Y, hY⟩ : ∃ Y, Y = forgetP r (l.map Prod.fst) d := ⟨_, rfl⟩
  rw [← hY]
  obtain ⟨b0, hb0⟩ : ∃ b, b = meOk r (l.map Prod.fst) := ⟨_, rfl⟩
  obtain ⟨b1, hb1⟩ : ∃ b, b = inB d 0 9 := ⟨_, rfl⟩
  have HE : Hid (Y = if b0 = false then ((rZ, []), 1) else if b1 = false then ((rZ, []), 2) else ((r, (l.map Prod.fst).map (fgI d)), 0)) := by unfold Hid; rw [hY, hb0, hb1, forgetP]
  obtain ⟨hM0, hX0, hS0, hBw0, hz0⟩ := HC.out W0 (Below.refl _ _)
  have H0 := Lib.hid (hb0 ▸ l16Ok_c w.heap.size 0 r l a c W0 ⟨hM0.1, hM0.2.1, hM0.2.2.1, hM0.2.2.2.1, hM0.2.2.2.2.1, hM0.2.2.2.2.2.1, hM0.2.2.2.2.2.2.1, hM0.2.2.2.2.2.2.2.1, hM0.2.2.2.2.2.2.2.2.1⟩ hM0.2.2.2.2.2.2.2.2.2 hS0 hl hm)
  have H1 := Lib.hid (hb1 ▸ l00In_c d 0 9)
  have HOK : Hid (b0 = true → meOk r (l.map Prod.fst) = true) := fun e => by rw [← hb0, e]
  have HM := Lib.hid hm
  clear hb0 hb1 hY h hm hW0 F0 hS0 hBw0
  obtain ⟨c0, c1, c2, c3, c4, c5, c6, c7, c8, c9⟩ := hM0
  simp only [meVal, meCells]
  go_enter Try.func26, Try.ntmps26
  go_upto_region 1 with fail
  rw [← HW0.out]
  go_wp2_with fail
  refine H0.out.mono ?_
  rintro e w1 ⟨rfl, hb1⟩
  have HB := Lib.hid hb1
  obtain ⟨⟨c0, c1, c2, c3, c4, c5, c6, c7, c8, c9⟩, hX1, hs1, hBw1, hz1⟩ := HC.out _ hb1
  obtain ⟨x0, x1, x2, x3, x4, x5, x6, x7, x8, x9⟩ := (⟨hX1.1 0 _ rfl, hX1.1 1 _ rfl, hX1.1 2 _ rfl, hX1.1 3 _ rfl, hX1.1 4 _ rfl, hX1.1 5 _ rfl, hX1.1 6 _ rfl, hX1.1 7 _ rfl, hX1.1 8 _ rfl, hX1.1 9 _ rfl⟩ : _ ∧ _ ∧ _ ∧ _ ∧ _ ∧ _ ∧ _ ∧ _ ∧ _ ∧ _)
  have xf := hX1.2
  have HBw1 := Lib.hid hBw1
  have HS1 := Lib.hid hs1
  clear hb1 hs1 hBw1 hX1 hX0 hz0
  cases b0
  case false =>
    have HE2 := Lib.hid (HE.out.trans (if_pos rfl))
    go_wp2
    refine bodyPost_ret (v := .tuple #[meVal rZ none 0 0, .int .i64 1]) (by simp [results, Try.results26, go_sem, x0, x1, x2, x3, x4, x5, x6, x7, x8, x9, xf, hz1, meVal, meCells, rZ]) rfl ?_
    rw [HE2.out]
    refine ⟨[], none, 0, rfl, rfl, ⟨fun q hq => by obtain rfl := List.mem_singleton.1 hq; exact World.ownsRow_nil _ _ _ _, List.pairwise_singleton _ _⟩, ?_⟩
    have k0 := HBw1.out
    repeat (first | (with_reducible exact k0) | ((with_reducible refine Below.setCell ?_ ?_ _); rotate_left; (simp <;> omega)))
  have HE1 := Lib.hid (HE.out.trans (if_neg (by simp)))
  clear HE
  go_wp2_with fail
  refine (H1.out _).mono ?_
  rintro e w2 ⟨rfl, rfl⟩
  cases b1
  case false =>
    have HE2 := Lib.hid (HE1.out.trans (if_pos rfl))
    go_wp2
    refine bodyPost_ret (v := .tuple #[meVal rZ none 0 0, .int .i64 2]) (by simp [results, Try.results26, go_sem, x0, x1, x2, x3, x4, x5, x6, x7, x8, x9, xf, hz1, meVal, meCells, rZ]) rfl ?_
    rw [HE2.out]
    refine ⟨[], none, 0, rfl, rfl, ⟨fun q hq => by obtain rfl := List.mem_singleton.1 hq; exact World.ownsRow_nil _ _ _ _, List.pairwise_singleton _ _⟩, ?_⟩
    have k0 := HBw1.out
    repeat (first | (with_reducible exact k0) | ((with_reducible refine Below.setCell ?_ ?_ _); rotate_left; (simp <;> omega)))
  have HE2 : Hid (Y = ((r, (l.map Prod.fst).map (fgS d)), 0)) := by have := HE1.out.trans (if_neg (by simp)); rw [fg_same (HOK.out (by simp))]; exact this
  obtain ⟨_, ⟨hn0, hn1⟩, _⟩ := meOk_parts (HOK.out (by simp))
  rw [List.length_map] at hn0 hn1
  have HQ := Lib.hid (l16Own_c w.heap.size 0 r l a c w1 ⟨c0, c1, c2, c3, c4, c5, c6, c7, c8⟩ c9 HS1.out (by omega) HM.out)
  clear HE1 H0 H1 HOK HS1
  go_wp2_with fail
  refine HQ.out.mono ?_
  rintro e w2 ⟨m, a2, cn, hmf, rfl, hp2, hb2⟩
  have hml : m.length = l.length := by have := congrArg List.length hmf; simpa using this
  obtain ⟨g, hg, hg1, hg2⟩ := own_lt_n (hp2.all _ (List.mem_cons_self ..)) (by omega)
  subst hg
  rw [hml]
  have hbw2 := below_next HB.out hb2
  obtain ⟨_, hX2, _, hBw2, hz2⟩ := HC.out _ hbw2
  have FX := (((Fr.from hBw2).add _ _ _ (BoxF.stab _ _) hX2 (by omega)).alloc #[.int .i64 r.pits, .int .i64 r.seeds, .bool r.stores, .bool r.skip, .bool r.relay, .bool r.feed, .bool r.again, .int .i64 r.capture, .int .i64 r.slam, .slice (some ⟨g, 0, none⟩) l.length cn] 52)
  obtain ⟨W1, hW1⟩ : ∃ W, W = w2.alloc (.cells #[.int .i64 r.pits, .int .i64 r.seeds, .bool r.stores, .bool r.skip, .bool r.relay, .bool r.feed, .bool r.again, .int .i64 r.capture, .int .i64 r.slam, .slice (some ⟨g, 0, none⟩) l.length cn] 52) := ⟨_, rfl⟩
  rw [← hW1] at FX
  have hp1 : Pcs W1 w1.heap.size (slRL.pcs (some ⟨g, 0, none⟩) cn m) := pcs_below hp2 (by rw [hW1]; exact below_alloc1 _ _)
  have hs1 : w2.heap.size < W1.heap.size := FX.le 0 rfl
  have HFX := Lib.hid FX
  have HKK : Hid (∀ W, Chg g (g + 1) W1 W → (W.cell? ⟨w2.heap.size, 0, none⟩ = some (.int .i64 r.pits) ∧ W.cell? ⟨w2.heap.size, 1, none⟩ = some (.int .i64 r.seeds) ∧ W.cell? ⟨w2.heap.size, 2, none⟩ = some (.bool r.stores) ∧ W.cell? ⟨w2.heap.size, 3, none⟩ = some (.bool r.skip) ∧ W.cell? ⟨w2.heap.size, 4, none⟩ = some (.bool r.relay) ∧ W.cell? ⟨w2.heap.size, 5, none⟩ = some (.bool r.feed) ∧ W.cell? ⟨w2.heap.size, 6, none⟩ = some (.bool r.again) ∧ W.cell? ⟨w2.heap.size, 7, none⟩ = some (.int .i64 r.capture) ∧ W.cell? ⟨w2.heap.size, 8, none⟩ = some (.int .i64 r.slam) ∧ W.cell? ⟨w2.heap.size, 9, none⟩ = some (.slice (some ⟨g, 0, none⟩) l.length cn)) ∧ BoxF (w.heap.size + 1) [.int .i64 0, .int .i64 0, .bool false, .bool false, .bool false, .bool false, .bool false, .int .i64 0, .int .i64 0, .slice none 0 0] W ∧ w.heap.size + 1 < W.heap.size ∧ w2.heap.size < W.heap.size ∧ Below w.heap.size w W) := fun W hW => by
    have hsz := hW.size
    exact ⟨me_box (BoxP.stab _ _ W1 W (HFX.out.at 0 rfl) (fun b h1 h2 => hW.block b (by omega) (by omega))), BoxF.stab _ _ W1 W (HFX.out.at 1 rfl) (fun b h1 h2 => hW.block b (by omega) (by omega)), by omega, by omega, hW.below HFX.out.below (by omega)⟩
  have HST0 : Hid (FgSt W1 W1 w1.heap.size g cn 0 (l.map Prod.fst) (fgS d) m) := ⟨by rw [hml, List.length_map], by rw [hmf]; rfl, hp1, Chg.refl _ _ _⟩
  have HNL : Hid ((l.map Prod.fst).length = l.length) := List.length_map _
  obtain ⟨xs, hxs⟩ : ∃ xs, xs = l.map Prod.fst := ⟨_, rfl⟩
  rw [← hxs] at HST0 HNL HE2
  have HW1 := Lib.hid hW1
  have HG : Hid (w.heap.size ≤ w1.heap.size ∧ g < w2.heap.size ∧ w1.heap.size ≤ g ∧ w2.heap.size < W1.heap.size) := ⟨by omega, hg2, hg1, hs1⟩
  obtain ⟨⟨o0, o1, o2, o3, o4, o5, o6, o7, o8, o9⟩, _, _, _, _⟩ := HKK.out W1 (Chg.refl _ _ _)
  clear hxs hmf hml hp2 hp1 hb2 hbw2 hX2 hBw2 FX hW1 HFX hs1 hg1 hg2 c0 c1 c2 c3 c4 c5 c6 c7 c8 c9 x0 x1 x2 x3 x4 x5 x6 x7 x8 x9 xf
  go_upto_region 6 with fail
  rw [← HW1.out]
  go_wp2_with fail
  clear o0 o1 o2 o3 o4 o5 o6 o7 o8 o9
  go_loopw [7] (fun i wr => ∃ (k : Nat) (m : List (Sl × SA)), i = .int .i64 k ∧ k ≤ l.length ∧ Hid (FgSt W1 wr w1.heap.size g cn k xs (fgS d) m)) (fun i _ => l.length - (intOf i).toNat)
  case atStart => exact ⟨0, m, rfl, Nat.zero_le _, HST0⟩
  case round =>
    clear HST0 m
    obtain ⟨k, m, rfl, hk, HST⟩ := hrel
    have HZ := Lib.hid (HKK.out wr HST.out.cg)
    have o9 : wr.cell? ⟨w2.heap.size, 9, none⟩ = some (.slice (some ⟨g, 0, none⟩) l.length cn) := HZ.out.1.2.2.2.2.2.2.2.2.2
    by_cases hlt : k < l.length
    · have hkI : (k : Int) < (l.length : Int) := by omega
      have hltx : k < xs.length := by have := HNL.out; omega
      obtain ⟨A, hx⟩ := HST.out.at hltx
      have hp := HST.out.pc.mk'
      obtain ⟨x, hxx⟩ : ∃ x, x = xs[k] := ⟨_, rfl⟩
      rw [← hxx] at hx
      have HXX : Hid (∀ z, fgS d x = z → fgS d xs[k] = z ∧ xs[k] = x) := fun z hz => by rw [hxx] at hz; exact ⟨hz, hxx.symm⟩
      obtain ⟨used, pits, pl, dp, vl, bd⟩ := x
      obtain ⟨q0, f0⟩ : _ ∧ _ := RL.cell hp hx (i := 0) (by decide) rfl
      obtain ⟨q1, f1⟩ : _ ∧ _ := RL.cell hp hx (i := 1) (by decide) rfl
      obtain ⟨q2, f2⟩ : _ ∧ _ := RL.cell hp hx (i := 2) (by decide) rfl
      obtain ⟨q3, f3⟩ : _ ∧ _ := RL.cell hp hx (i := 3) (by decide) rfl
      obtain ⟨q4, f4⟩ : _ ∧ _ := RL.cell hp hx (i := 4) (by decide) rfl
      obtain ⟨q5, f5⟩ : _ ∧ _ := RL.cell hp hx (i := 5) (by decide) rfl
      simp only [show slRL.n = 6 from rfl, Nat.add_zero] at q0 f0 q1 f1 q2 f2 q3 f3 q4 f4 q5 f5
      have hgw : g < wr.heap.size := World.block_lt_of_cell? wr _ q0
      have gf := fun o => (RL.main hp).frozenAt o
      have hob : w2.heap.size < wr.heap.size := HZ.out.2.2.2.1
      have hgne : ¬ g = wr.heap.size := by omega
      have HBA : Hid (∀ t, Below wr.heap.size wr (wr.alloc t)) := fun t => below_alloc1 _ _
      clear hxx hx hp f0 f1 f2 f3 f4 f5
      by_cases hd : dp < d
      · have hpt := Lib.hid (HST.out.put hltx (HXX.out _ (show fgS d ⟨used, pits, pl, dp, vl, bd⟩ = _ from by simp [fgS, hd])).1 (Below.refl _ _))
        go_wp2
        go_roundw
        case rel => exact ⟨k + 1, _, by go_num, by omega, hpt⟩
        case measure => simp [intOf]; omega
      · have hsk := Lib.hid (HST.out.skip hltx ((HXX.out _ (show fgS d ⟨used, pits, pl, dp, vl, bd⟩ = _ from by simp [fgS, hd])).1.trans (HXX.out _ rfl).2.symm) (Below.refl _ _))
        go_wp2
        go_roundw
        case rel => exact ⟨k + 1, m, by go_num, by omega, hsk⟩
        case measure => simp [intOf]; omega
    · have hkI : ¬ (k : Int) < (l.length : Int) := by omega
      have HMF := Lib.hid (HST.out.done (by have := HNL.out; omega))
      obtain ⟨⟨o0, o1, o2, o3, o4, o5, o6, o7, o8, o9⟩, hbz, hz1, hz2, hbw⟩ := HZ.out
      obtain ⟨x0, x1, x2, x3, x4, x5, x6, x7, x8, x9⟩ := (⟨hbz.1 0 _ rfl, hbz.1 1 _ rfl, hbz.1 2 _ rfl, hbz.1 3 _ rfl, hbz.1 4 _ rfl, hbz.1 5 _ rfl, hbz.1 6 _ rfl, hbz.1 7 _ rfl, hbz.1 8 _ rfl, hbz.1 9 _ rfl⟩ : _ ∧ _ ∧ _ ∧ _ ∧ _ ∧ _ ∧ _ ∧ _ ∧ _ ∧ _)
      have xf := hbz.2
      have HBW := Lib.hid hbw
      clear hbz hbw
      go_wp2
      refine bodyPost_ret (v := .tuple #[meVal r (some ⟨g, 0, none⟩) l.length cn, .int .i64 0]) (by simp [results, Try.results26, go_sem, x0, x1, x2, x3, x4, x5, x6, x7, x8, x9, xf, hz1, meVal, meCells]) rfl ?_
      rw [HE2.out]
      refine ⟨m, some ⟨g, 0, none⟩, cn, HMF.out, by rw [HST.out.ml, HNL.out], ?_, ?_⟩
      · have k0 := HST.out.pc
        refine Pcs.le (base := w1.heap.size) ?_ HG.out.1
        have := HG.out
        repeat (first | (with_reducible exact k0) | ((with_reducible refine Pcs.setBelow ?_ ?_ _); rotate_left; (have := HBw1.out.size; omega)))
      · have k0 := HBW.out
        repeat (first | (with_reducible exact k0) | ((with_reducible refine Below.setCell ?_ ?_ _); rotate_left; (simp <;> omega)))

end Go.Proofs.Ytbjgigdkbjabaaa
