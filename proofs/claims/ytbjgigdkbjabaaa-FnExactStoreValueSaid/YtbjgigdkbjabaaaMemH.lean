/- MemH: a memory with the values of another one: both sides. Each contract holds for every argument, under the premises that it states. -/
import Derived.Test.YtbjgigdkbjabaaaMemG
namespace Go.Proofs.Ytbjgigdkbjabaaa
set_option linter.unusedSimpArgs false
set_option linter.unusedVariables false
set_option linter.unnecessarySimpa false
open Go.RowKit Go.ChangeShapes Go.WideShapes Go.ChangeAt Go.Joins

@[simp] theorem run_neq_rulesM (p s c l p' s' c' l' : Int) (t k e f g t' k' e' f' g' : Bool) (w : World) :
   (binOp .neq 33 (.agg #[.int .i64 p, .int .i64 s, .bool t, .bool k, .bool e, .bool f, .bool g, .int .i64 c, .int .i64 l]) (.agg #[.int .i64 p', .int .i64 s', .bool t', .bool k', .bool e', .bool f', .bool g', .int .i64 c', .int .i64 l'])).run Try.prog w = .ok (.bool (!rEq ⟨p, s, t, k, e, f, g, c, l⟩ ⟨p', s', t', k', e', f', g', c', l'⟩)) w := by
  simp [go_sem]
  repeat' split
  all_goals (try simp_all [rEq])

theorem me_at {W : World} {b : Nat} {r : R} {a : Option Addr} {n c : Nat} (h : (W.cell? ⟨b, 0, none⟩ = some (.int .i64 r.pits) ∧ W.cell? ⟨b, 1, none⟩ = some (.int .i64 r.seeds) ∧ W.cell? ⟨b, 2, none⟩ = some (.bool r.stores) ∧ W.cell? ⟨b, 3, none⟩ = some (.bool r.skip) ∧ W.cell? ⟨b, 4, none⟩ = some (.bool r.relay) ∧ W.cell? ⟨b, 5, none⟩ = some (.bool r.feed) ∧ W.cell? ⟨b, 6, none⟩ = some (.bool r.again) ∧ W.cell? ⟨b, 7, none⟩ = some (.int .i64 r.capture) ∧ W.cell? ⟨b, 8, none⟩ = some (.int .i64 r.slam) ∧ W.cell? ⟨b, 9, none⟩ = some (.slice a n c))) : R.At W b 0 r ∧ W.cell? ⟨b, 0 + 9, none⟩ = some (.slice a n c) := ⟨⟨h.1, h.2.1, h.2.2.1, h.2.2.2.1, h.2.2.2.2.1, h.2.2.2.2.2.1, h.2.2.2.2.2.2.1, h.2.2.2.2.2.2.2.1, h.2.2.2.2.2.2.2.2.1⟩, h.2.2.2.2.2.2.2.2.2⟩
/-! ### in plain terms -/
def mgGo (ys xs : List Sl) : List Sl := ys.foldl (fun acc y => if y.used = true then storeL acc y else acc) xs
def mergeP (r : R) (xs : List Sl) (r2 : R) (ys : List Sl) : (R × List Sl) × Int :=
  if meOk r xs = false then ((rZ, []), 1) else if meOk r2 ys = false then ((rZ, []), 1) else if rEq r r2 = false then ((rZ, []), 6) else if xs.length = ys.length then ((r, mgGo ys xs), 0) else ((rZ, []), 6)
theorem okAt_used {r : R} {n : Nat} {i : Int} {x : Sl} (h : x.okAt r n i = true) (hu : x.used = true) : (0 ≤ x.player ∧ x.player ≤ 1) ∧ ∀ z ∈ x.pits, 0 ≤ z ∧ z ≤ 96 := by
  rw [Sl.okAt, if_neg (by rw [hu]; simp)] at h
  simp only [Bool.and_eq_true] at h
  obtain ⟨_, ⟨pn, hpn, hpn1⟩, t, hB, ht0, ht⟩ := P.ok_parts h.1.1
  have : x.player = (pn : Int) := hpn
  exact ⟨by omega, hB.bp ht⟩
/-- the places of the other memory are gone through: the first k of them are done -/
structure MgSt (W1 wr : World) (base g c k n : Nat) (ys xs : List Sl) (m : List (Sl × SA)) : Prop where
  ml : m.length = n
  mf : m.map Prod.fst = mgGo (ys.take k) xs
  pc : Pcs wr base (slRL.pcs (some ⟨g, 0, none⟩) c m)
  cg : Chg g (g + 1) W1 wr
theorem MgSt.skip {W1 wr wr' : World} {base g c k n : Nat} {ys xs : List Sl} {m : List (Sl × SA)} (h : MgSt W1 wr base g c k n ys xs m) (hk : k < ys.length) (hf : ys[k].used = false) (hb : Below wr.heap.size wr wr') : MgSt W1 wr' base g c (k + 1) n ys xs m := by
  refine ⟨h.ml, ?_, pcs_below h.pc hb, h.cg.trans (Chg.ofBelow hb)⟩
  rw [h.mf, List.take_succ_eq_append_getElem hk]
  unfold mgGo
  rw [List.foldl_append]
  simp [hf]
theorem MgSt.put {W1 wr V w' : World} {base g c k n : Nat} {ys xs : List Sl} {m : List (Sl × SA)} {e : Ending} (h : MgSt W1 wr base g c k n ys xs m) (hk : k < ys.length) (hf : ys[k].used = true) (hb : Below wr.heap.size wr V) (hp : StPost V base g c (storeL (m.map Prod.fst) ys[k]) e w') : ∃ m', MgSt W1 w' base g c (k + 1) n ys xs m' := by
  obtain ⟨_, m', h1, h2, h3⟩ := hp
  refine ⟨m', ?_, ?_, h2, h.cg.trans ((Chg.ofBelow hb).trans h3)⟩
  · have := congrArg List.length h1
    rw [storeL_len, List.length_map, List.length_map, h.ml] at this
    exact this
  · rw [h1, h.mf, List.take_succ_eq_append_getElem hk]
    unfold mgGo
    rw [List.foldl_append]
    simp [hf]

set_option maxRecDepth 100000 in
set_option maxHeartbeats 16000000 in
theorem iMergeMemories_c (r : R) (l : List (Sl × SA)) (a : Option Addr) (c : Nat) (r2 : R) (l2 : List (Sl × SA)) (a2 : Option Addr) (c2' : Nat) (w : World) (h : SRows w a l) (hl : l.length ≤ 1048576) (hm : ∀ x ∈ l, x.1.pits.length ≤ 1048576) (h2 : SRows w a2 l2) (hl2 : l2.length ≤ 1048576) (hm2 : ∀ x ∈ l2, x.1.pits.length ≤ 1048576) :
    Calls Try.prog 33 #[meVal r a l.length c, meVal r2 a2 l2.length c2'] w (MRes2 w (mergeP r (l.map Prod.fst) r2 (l2.map Prod.fst))) := by
  have F0 := (((Fr.start w).alloc #[.int .i64 r.pits, .int .i64 r.seeds, .bool r.stores, .bool r.skip, .bool r.relay, .bool r.feed, .bool r.again, .int .i64 r.capture, .int .i64 r.slam, .slice a l.length c] 52).alloc #[.int .i64 r2.pits, .int .i64 r2.seeds, .bool r2.stores, .bool r2.skip, .bool r2.relay, .bool r2.feed, .bool r2.again, .int .i64 r2.capture, .int .i64 r2.slam, .slice a2 l2.length c2'] 52).allocF #[.int .i64 rZ.pits, .int .i64 rZ.seeds, .bool rZ.stores, .bool rZ.skip, .bool rZ.relay, .bool rZ.feed, .bool rZ.again, .int .i64 rZ.capture, .int .i64 rZ.slam, .slice none 0 0] 52
  simp only [World.size_alloc, rZ] at F0
  obtain ⟨W0, hW0⟩ : ∃ W, W = ((w.alloc (.cells #[.int .i64 r.pits, .int .i64 r.seeds, .bool r.stores, .bool r.skip, .bool r.relay, .bool r.feed, .bool r.again, .int .i64 r.capture, .int .i64 r.slam, .slice a l.length c] 52)).alloc (.cells #[.int .i64 r2.pits, .int .i64 r2.seeds, .bool r2.stores, .bool r2.skip, .bool r2.relay, .bool r2.feed, .bool r2.again, .int .i64 r2.capture, .int .i64 r2.slam, .slice a2 l2.length c2'] 52)).alloc (.cells #[.int .i64 0, .int .i64 0, .bool false, .bool false, .bool false, .bool false, .bool false, .int .i64 0, .int .i64 0, .slice none 0 0] 52) := ⟨_, rfl⟩
  rw [← hW0] at F0
  have HF0 := Lib.hid F0
  have HC : Hid (∀ W, Below W0.heap.size W0 W → (W.cell? ⟨w.heap.size, 0, none⟩ = some (.int .i64 r.pits) ∧ W.cell? ⟨w.heap.size, 1, none⟩ = some (.int .i64 r.seeds) ∧ W.cell? ⟨w.heap.size, 2, none⟩ = some (.bool r.stores) ∧ W.cell? ⟨w.heap.size, 3, none⟩ = some (.bool r.skip) ∧ W.cell? ⟨w.heap.size, 4, none⟩ = some (.bool r.relay) ∧ W.cell? ⟨w.heap.size, 5, none⟩ = some (.bool r.feed) ∧ W.cell? ⟨w.heap.size, 6, none⟩ = some (.bool r.again) ∧ W.cell? ⟨w.heap.size, 7, none⟩ = some (.int .i64 r.capture) ∧ W.cell? ⟨w.heap.size, 8, none⟩ = some (.int .i64 r.slam) ∧ W.cell? ⟨w.heap.size, 9, none⟩ = some (.slice a l.length c)) ∧ (W.cell? ⟨w.heap.size + 1, 0, none⟩ = some (.int .i64 r2.pits) ∧ W.cell? ⟨w.heap.size + 1, 1, none⟩ = some (.int .i64 r2.seeds) ∧ W.cell? ⟨w.heap.size + 1, 2, none⟩ = some (.bool r2.stores) ∧ W.cell? ⟨w.heap.size + 1, 3, none⟩ = some (.bool r2.skip) ∧ W.cell? ⟨w.heap.size + 1, 4, none⟩ = some (.bool r2.relay) ∧ W.cell? ⟨w.heap.size + 1, 5, none⟩ = some (.bool r2.feed) ∧ W.cell? ⟨w.heap.size + 1, 6, none⟩ = some (.bool r2.again) ∧ W.cell? ⟨w.heap.size + 1, 7, none⟩ = some (.int .i64 r2.capture) ∧ W.cell? ⟨w.heap.size + 1, 8, none⟩ = some (.int .i64 r2.slam) ∧ W.cell? ⟨w.heap.size + 1, 9, none⟩ = some (.slice a2 l2.length c2')) ∧ BoxF (w.heap.size + 1 + 1) [.int .i64 0, .int .i64 0, .bool false, .bool false, .bool false, .bool false, .bool false, .int .i64 0, .int .i64 0, .slice none 0 0] W ∧ SRows W a l ∧ SRows W a2 l2 ∧ Below w.heap.size w W ∧ w.heap.size + 1 + 1 < W.heap.size) := fun W hW => by
    have F := HF0.out.step hW
    exact ⟨me_box (F.at 2 rfl), me_box (F.at 1 rfl), F.at 0 rfl, h.below F.below (Nat.le_refl _), h2.below F.below (Nat.le_refl _), F.below, F.le 0 rfl⟩
  have HW0 := Lib.hid hW0
  obtain ⟨Y, hY⟩ : ∃ Y, Y = mergeP r (l.map Prod.fst) r2 (l2.map Prod.fst) := ⟨_, rfl⟩
  rw [← hY]
  obtain ⟨b0, hb0⟩ : ∃ b, b = meOk r (l.map Prod.fst) := ⟨_, rfl⟩
  obtain ⟨b1, hb1⟩ : ∃ b, b = meOk r2 (l2.map Prod.fst) := ⟨_, rfl⟩
  have HE : Hid (Y = if b0 = false then ((rZ, []), 1) else if b1 = false then ((rZ, []), 1) else if rEq r r2 = false then ((rZ, []), 6) else if l.length = l2.length then ((r, mgGo (l2.map Prod.fst) (l.map Prod.fst)), 0) else ((rZ, []), 6)) := by unfold Hid; rw [hY, hb0, hb1, mergeP, List.length_map, List.length_map]
  obtain ⟨hM0, _, _, hS0, _, _, _⟩ := HC.out W0 (Below.refl _ _)
  have H0 := Lib.hid (hb0 ▸ ValidMemory_c r l a c W0 hS0 hl hm)
  have H1 := Lib.hid (fun (W : World) (hW : Below W0.heap.size W0 W) => hb1 ▸ ValidMemory_c r2 l2 a2 c2' W (HC.out W hW).2.2.2.2.1 hl2 hm2)
  have HOK0 : Hid (b0 = true → meOk r (l.map Prod.fst) = true) := fun e => by rw [← hb0, e]
  have HOK1 : Hid (b1 = true → meOk r2 (l2.map Prod.fst) = true) := fun e => by rw [← hb1, e]
  have HM := Lib.hid hm
  have HM2 := Lib.hid hm2
  have HS2 := Lib.hid h2
  clear hb0 hb1 hY h hm h2 hm2 hW0 F0 hS0
  obtain ⟨c0, c1, c2, c3, c4, c5, c6, c7, c8, c9⟩ := hM0
  simp only [meVal, meCells]
  go_enter Try.func33, Try.ntmps33
  go_upto_region 1 with fail
  rw [← HW0.out]
  go_wp2_with fail
  refine H0.out.mono ?_
  rintro e w1 ⟨rfl, hb1⟩
  have HB := Lib.hid hb1
  obtain ⟨⟨c0, c1, c2, c3, c4, c5, c6, c7, c8, c9⟩, ⟨d0, d1, d2, d3, d4, d5, d6, d7, d8, d9⟩, hX1, _, _, hBw1, hz⟩ := HC.out _ hb1
  obtain ⟨x0, x1, x2, x3, x4, x5, x6, x7, x8, x9⟩ := (⟨hX1.1 0 _ rfl, hX1.1 1 _ rfl, hX1.1 2 _ rfl, hX1.1 3 _ rfl, hX1.1 4 _ rfl, hX1.1 5 _ rfl, hX1.1 6 _ rfl, hX1.1 7 _ rfl, hX1.1 8 _ rfl, hX1.1 9 _ rfl⟩ : _ ∧ _ ∧ _ ∧ _ ∧ _ ∧ _ ∧ _ ∧ _ ∧ _ ∧ _)
  have xf := hX1.2
  have HBw := Lib.hid hBw1
  clear hb1 hBw1 hX1
  cases b0
  case false =>
    have HE2 := Lib.hid (HE.out.trans (if_pos rfl))
    clear c0 c1 c2 c3 c4 c5 c6 c7 c8 c9 d0 d1 d2 d3 d4 d5 d6 d7 d8 d9
    go_wp2
    refine bodyPost_ret (v := .tuple #[meVal rZ none 0 0, .int .i64 1]) (by simp [results, Try.results33, go_sem, x0, x1, x2, x3, x4, x5, x6, x7, x8, x9, xf, hz, meVal, meCells, rZ]) rfl ?_
    rw [HE2.out]
    refine ⟨[], none, 0, rfl, rfl, ⟨fun q hq => by obtain rfl := List.mem_singleton.1 hq; exact World.ownsRow_nil _ _ _ _, List.pairwise_singleton _ _⟩, ?_⟩
    have k0 := HBw.out
    repeat (first | (with_reducible exact k0) | ((with_reducible refine Below.setCell ?_ ?_ _); rotate_left; (simp <;> omega)))
  have HE1 := Lib.hid (HE.out.trans (if_neg (by simp)))
  have HQ1 := Lib.hid (H1.out w1 HB.out)
  clear HE H1
  go_wp2_with fail
  refine HQ1.out.mono ?_
  rintro e w2 ⟨rfl, hb2⟩
  have HB2 := Lib.hid (below_next HB.out hb2)
  clear HBw
  obtain ⟨⟨c0, c1, c2, c3, c4, c5, c6, c7, c8, c9⟩, ⟨d0, d1, d2, d3, d4, d5, d6, d7, d8, d9⟩, hX1, _, _, hBw1, hz⟩ := HC.out _ HB2.out
  obtain ⟨x0, x1, x2, x3, x4, x5, x6, x7, x8, x9⟩ := (⟨hX1.1 0 _ rfl, hX1.1 1 _ rfl, hX1.1 2 _ rfl, hX1.1 3 _ rfl, hX1.1 4 _ rfl, hX1.1 5 _ rfl, hX1.1 6 _ rfl, hX1.1 7 _ rfl, hX1.1 8 _ rfl, hX1.1 9 _ rfl⟩ : _ ∧ _ ∧ _ ∧ _ ∧ _ ∧ _ ∧ _ ∧ _ ∧ _ ∧ _)
  have xf := hX1.2
  have HBw := Lib.hid hBw1
  clear hb2 hBw1 hX1
  cases b1
  case false =>
    have HE2 := Lib.hid (HE1.out.trans (if_pos rfl))
    clear c0 c1 c2 c3 c4 c5 c6 c7 c8 c9 d0 d1 d2 d3 d4 d5 d6 d7 d8 d9
    go_wp2
    refine bodyPost_ret (v := .tuple #[meVal rZ none 0 0, .int .i64 1]) (by simp [results, Try.results33, go_sem, x0, x1, x2, x3, x4, x5, x6, x7, x8, x9, xf, hz, meVal, meCells, rZ]) rfl ?_
    rw [HE2.out]
    refine ⟨[], none, 0, rfl, rfl, ⟨fun q hq => by obtain rfl := List.mem_singleton.1 hq; exact World.ownsRow_nil _ _ _ _, List.pairwise_singleton _ _⟩, ?_⟩
    have k0 := HBw.out
    repeat (first | (with_reducible exact k0) | ((with_reducible refine Below.setCell ?_ ?_ _); rotate_left; (simp <;> omega)))
  have HE3 := Lib.hid (HE1.out.trans (if_neg (by simp)))
  clear HE1 HQ1
  by_cases hr : r = r2
  rotate_left
  · have hq := rEq_ne hr
    have HE2 := Lib.hid (HE3.out.trans (if_pos hq))
    clear hr
    go_wp2
    refine bodyPost_ret (v := .tuple #[meVal rZ none 0 0, .int .i64 6]) (by simp [results, Try.results33, go_sem, x0, x1, x2, x3, x4, x5, x6, x7, x8, x9, xf, hz, meVal, meCells, rZ]) rfl ?_
    rw [HE2.out]
    refine ⟨[], none, 0, rfl, rfl, ⟨fun q hq => by obtain rfl := List.mem_singleton.1 hq; exact World.ownsRow_nil _ _ _ _, List.pairwise_singleton _ _⟩, ?_⟩
    have k0 := HBw.out
    repeat (first | (with_reducible exact k0) | ((with_reducible refine Below.setCell ?_ ?_ _); rotate_left; (simp <;> omega)))
  subst hr
  have hq := rEq_self r
  have HE4 := Lib.hid (HE3.out.trans (if_neg (by rw [hq]; simp)))
  clear HE3
  by_cases hlen : l.length = l2.length
  rotate_left
  · have HE2 := Lib.hid (HE4.out.trans (if_neg hlen))
    have hT : ((l.length : Int) != l2.length) = true := by simp; omega
    clear hlen
    go_wp2
    refine bodyPost_ret (v := .tuple #[meVal rZ none 0 0, .int .i64 6]) (by simp [results, Try.results33, go_sem, x0, x1, x2, x3, x4, x5, x6, x7, x8, x9, xf, hz, meVal, meCells, rZ]) rfl ?_
    rw [HE2.out]
    refine ⟨[], none, 0, rfl, rfl, ⟨fun q hq => by obtain rfl := List.mem_singleton.1 hq; exact World.ownsRow_nil _ _ _ _, List.pairwise_singleton _ _⟩, ?_⟩
    have k0 := HBw.out
    repeat (first | (with_reducible exact k0) | ((with_reducible refine Below.setCell ?_ ?_ _); rotate_left; (simp <;> omega)))
  have HE2 := Lib.hid (HE4.out.trans (if_pos hlen))
  have hT : ((l.length : Int) != l2.length) = false := by simp; omega
  have HLEN := Lib.hid hlen
  clear HE4 hlen
  obtain ⟨_, ⟨hn0, hn1⟩, _⟩ := meOk_parts (HOK0.out (by simp))
  rw [List.length_map] at hn0 hn1
  have HQ := Lib.hid (mcopied_c r l a c w2 (HC.out _ HB2.out).2.2.2.1 (by omega) HM.out)
  clear HOK0 H0
  go_wp2_with fail
  refine HQ.out.mono ?_
  rintro e w3 ⟨m, a3, cn, hmf, rfl, hp3, hb3⟩
  have hml : m.length = l.length := by have := congrArg List.length hmf; simpa using this
  obtain ⟨g, hg, hg1, hg2⟩ := own_lt_n (hp3.all _ (List.mem_cons_self ..)) (by omega)
  subst hg
  rw [hml]
  have hbw3 := below_next HB2.out hb3
  obtain ⟨_, hD3, hX3, _, _, hBw3, hz3⟩ := HC.out _ hbw3
  have hD3' : BoxP (w.heap.size + 1) (meCells r a2 l2.length c2').toList w3 := (HF0.out.step hbw3).at 1 rfl
  have FX := ((((Fr.from hBw3).add _ _ _ (BoxP.stab _ _) hD3' (by omega)).add _ _ _ (BoxF.stab _ _) hX3 (by omega)).alloc #[.int .i64 r.pits, .int .i64 r.seeds, .bool r.stores, .bool r.skip, .bool r.relay, .bool r.feed, .bool r.again, .int .i64 r.capture, .int .i64 r.slam, .slice (some ⟨g, 0, none⟩) l.length cn] 52)
  obtain ⟨W1, hW1⟩ : ∃ W, W = w3.alloc (.cells #[.int .i64 r.pits, .int .i64 r.seeds, .bool r.stores, .bool r.skip, .bool r.relay, .bool r.feed, .bool r.again, .int .i64 r.capture, .int .i64 r.slam, .slice (some ⟨g, 0, none⟩) l.length cn] 52) := ⟨_, rfl⟩
  rw [← hW1] at FX
  have hp1 : Pcs W1 w2.heap.size (slRL.pcs (some ⟨g, 0, none⟩) cn m) := pcs_below hp3 (by rw [hW1]; exact below_alloc1 _ _)
  have hs1 : w3.heap.size < W1.heap.size := FX.le 0 rfl
  have HFX := Lib.hid FX
  have HKK : Hid (∀ W, Chg g (g + 1) W1 W → (W.cell? ⟨w3.heap.size, 0, none⟩ = some (.int .i64 r.pits) ∧ W.cell? ⟨w3.heap.size, 1, none⟩ = some (.int .i64 r.seeds) ∧ W.cell? ⟨w3.heap.size, 2, none⟩ = some (.bool r.stores) ∧ W.cell? ⟨w3.heap.size, 3, none⟩ = some (.bool r.skip) ∧ W.cell? ⟨w3.heap.size, 4, none⟩ = some (.bool r.relay) ∧ W.cell? ⟨w3.heap.size, 5, none⟩ = some (.bool r.feed) ∧ W.cell? ⟨w3.heap.size, 6, none⟩ = some (.bool r.again) ∧ W.cell? ⟨w3.heap.size, 7, none⟩ = some (.int .i64 r.capture) ∧ W.cell? ⟨w3.heap.size, 8, none⟩ = some (.int .i64 r.slam) ∧ W.cell? ⟨w3.heap.size, 9, none⟩ = some (.slice (some ⟨g, 0, none⟩) l.length cn)) ∧ BoxF (w.heap.size + 1 + 1) [.int .i64 0, .int .i64 0, .bool false, .bool false, .bool false, .bool false, .bool false, .int .i64 0, .int .i64 0, .slice none 0 0] W ∧ (W.cell? ⟨w.heap.size + 1, 0, none⟩ = some (.int .i64 r.pits) ∧ W.cell? ⟨w.heap.size + 1, 1, none⟩ = some (.int .i64 r.seeds) ∧ W.cell? ⟨w.heap.size + 1, 2, none⟩ = some (.bool r.stores) ∧ W.cell? ⟨w.heap.size + 1, 3, none⟩ = some (.bool r.skip) ∧ W.cell? ⟨w.heap.size + 1, 4, none⟩ = some (.bool r.relay) ∧ W.cell? ⟨w.heap.size + 1, 5, none⟩ = some (.bool r.feed) ∧ W.cell? ⟨w.heap.size + 1, 6, none⟩ = some (.bool r.again) ∧ W.cell? ⟨w.heap.size + 1, 7, none⟩ = some (.int .i64 r.capture) ∧ W.cell? ⟨w.heap.size + 1, 8, none⟩ = some (.int .i64 r.slam) ∧ W.cell? ⟨w.heap.size + 1, 9, none⟩ = some (.slice a2 l2.length c2')) ∧ w.heap.size + 1 + 1 < W.heap.size ∧ w3.heap.size < W.heap.size ∧ Below w.heap.size w W) := fun W hW => by
    have hsz := hW.size
    exact ⟨me_box (BoxP.stab _ _ W1 W (HFX.out.at 0 rfl) (fun b h1 h2 => hW.block b (by omega) (by omega))), BoxF.stab _ _ W1 W (HFX.out.at 1 rfl) (fun b h1 h2 => hW.block b (by omega) (by omega)), me_box (BoxP.stab _ _ W1 W (HFX.out.at 2 rfl) (fun b h1 h2 => hW.block b (by omega) (by omega))), by omega, by omega, hW.below HFX.out.below (by omega)⟩
  have HST0 : Hid (MgSt W1 W1 w2.heap.size g cn 0 l.length (l2.map Prod.fst) (l.map Prod.fst) m) := ⟨hml, by rw [hmf]; rfl, hp1, Chg.refl _ _ _⟩
  have HNL : Hid ((l2.map Prod.fst).length = l2.length) := List.length_map _
  have HVAL : Hid (∀ k (hk : k < l2.length), l2[k].1.okAt r l2.length ((0 + k : Nat) : Int) = true) := fun k hk => by
    have h1 := (meOk_parts (HOK1.out (by simp))).2.2
    rw [List.length_map] at h1
    exact okGo_at (k := k) h1 (by simp [hk])
  have HGET : Hid (∀ k (hk : k < (l2.map Prod.fst).length) (hk' : k < l2.length), (l2.map Prod.fst)[k] = l2[k].1) := fun k hk hk' => by simp
  obtain ⟨xs, hxs⟩ : ∃ xs, xs = l.map Prod.fst := ⟨_, rfl⟩
  obtain ⟨ys, hys⟩ : ∃ ys, ys = l2.map Prod.fst := ⟨_, rfl⟩
  rw [← hxs, ← hys] at HST0 HE2
  rw [← hys] at HNL
  have HGET2 : Hid (∀ k (hk : k < ys.length) (hk' : k < l2.length), ys[k] = l2[k].1) := fun k hk hk' => by subst hys; exact HGET.out k hk hk'
  have HW1 := Lib.hid hW1
  have HG : Hid (w.heap.size ≤ w2.heap.size ∧ g < w3.heap.size ∧ w2.heap.size ≤ g ∧ w3.heap.size < W1.heap.size ∧ w.heap.size + 1 + 1 < w2.heap.size) := ⟨by omega, hg2, hg1, hs1, hz⟩
  obtain ⟨⟨o0, o1, o2, o3, o4, o5, o6, o7, o8, o9⟩, _, ⟨d0, d1, d2, d3, d4, d5, d6, d7, d8, d9⟩, _, _, _⟩ := HKK.out W1 (Chg.refl _ _ _)
  clear hxs hys hmf hml hp3 hp1 hb3 hbw3 hX3 hBw3 hD3 hD3' FX hW1 HFX hs1 hg1 hg2 c0 c1 c2 c3 c4 c5 c6 c7 c8 c9 x0 x1 x2 x3 x4 x5 x6 x7 x8 x9 xf HGET HOK1 hT hq
  go_upto_region 6 with fail
  rw [← HW1.out]
  go_wp2_with fail
  clear o0 o1 o2 o3 o4 o5 o6 o7 o8 o9 d0 d1 d2 d3 d4 d5 d6 d7 d8 d9
  go_loopw [38] (fun i wr => ∃ (k : Nat) (m : List (Sl × SA)), i = .int .i64 k ∧ k ≤ l2.length ∧ Hid (MgSt W1 wr w2.heap.size g cn k l.length ys xs m)) (fun i _ => l2.length - (intOf i).toNat)
  case atStart => exact ⟨0, m, rfl, Nat.zero_le _, HST0⟩
  case round =>
    clear HST0 m
    obtain ⟨k, m, rfl, hk, HST⟩ := hrel
    have HZ := Lib.hid (HKK.out wr HST.out.cg)
    have b9 : wr.cell? ⟨w.heap.size + 1, 9, none⟩ = some (.slice a2 l2.length c2') := HZ.out.2.2.1.2.2.2.2.2.2.2.2.2
    by_cases hlt : k < l2.length
    · have hkI : (k : Int) < (l2.length : Int) := by omega
      have hltx : k < ys.length := by have := HNL.out; omega
      have hs := HS2.out.below HZ.out.2.2.2.2.2 (Nat.le_refl _)
      obtain ⟨b, off, ha, hb, s0, s1, s2, s3, s4, s5⟩ := hs.at (k := k) (x := l2[k]) (by simp [hlt])
      have hb0 : b < w.heap.size := by
        obtain ⟨b', off', ha', hb', _⟩ := HS2.out.at (k := k) (x := l2[k]) (by simp [hlt])
        rw [ha] at ha'
        cases ha'
        exact hb'
      have HI := Lib.hid (hs.items l2[k] (List.getElem_mem hlt))
      have HX := Lib.hid (HM2.out l2[k] (List.getElem_mem hlt))
      have HXX : Hid (∀ z : Sl × SA, z = l2[k] → ys[k] = z.1 ∧ z.1.okAt r l2.length ((0 + k : Nat) : Int) = true) := fun z hz => by rw [hz]; exact ⟨HGET2.out k hltx hlt, HVAL.out k hlt⟩
      obtain ⟨y, hy⟩ : ∃ y, y = l2[k] := ⟨_, rfl⟩
      have HYY := Lib.hid (HXX.out y hy)
      rw [← hy] at s0 s1 s2 s3 s4 s5 HI HX
      obtain ⟨⟨used, pits, pl, dp, vl, bd⟩, ka⟩ := y
      dsimp only at s0 s1 s2 s3 s4 s5 HI HX HYY
      subst ha
      clear hy HXX hs
      have hob : w3.heap.size < wr.heap.size := HZ.out.2.2.2.2.1
      have FV := (Fr.start wr).alloc #[.bool used, .slice ka.qa pits.length ka.qc, .int .i64 pl, .int .i64 dp, .int .i64 vl, .int .i64 bd] 113
      obtain ⟨V, hV⟩ : ∃ V, V = wr.alloc (.cells #[.bool used, .slice ka.qa pits.length ka.qc, .int .i64 pl, .int .i64 dp, .int .i64 vl, .int .i64 bd] 113) := ⟨_, rfl⟩
      rw [← hV] at FV
      have hbV : Below wr.heap.size wr V := FV.below
      have HBV := Lib.hid hbV
      obtain ⟨t0, t1, t2, t3, t4, t5⟩ := sl_box (x := ⟨used, pits, pl, dp, vl, bd⟩) (FV.at 0 rfl)
      simp only at t0 t1 t2 t3 t4 t5
      obtain ⟨⟨o0, o1, o2, o3, o4, o5, o6, o7, o8, o9⟩, _, _, _, _, _⟩ := HKK.out V (HST.out.cg.trans (Chg.ofBelow hbV))
      have HV := Lib.hid hV
      clear hV hbV FV
      go_upto_region 9 with fail
      rw [← HV.out]
      clear s0 s1 s2 s3 s4 s5 HV b9
      cases used
      · have HSK := Lib.hid (HST.out.skip hltx (by rw [HYY.out.1]) HBV.out)
        clear o0 o1 o2 o3 o4 o5 o6 o7 o8 o9
        go_wp2
        go_roundw
        case rel => exact ⟨k + 1, m, by go_num, by omega, HSK⟩
        case measure => simp [intOf]; omega
      · obtain ⟨hpl, hbb⟩ := okAt_used HYY.out.2 rfl
        have HQS := Lib.hid (store_c r m g cn w2.heap.size ⟨true, pits, pl, dp, vl, bd⟩ ka V (pcs_below HST.out.pc HBV.out) (by rw [HST.out.ml]; omega) (HI.out.below HBV.out (Nat.le_refl _)) HX.out hpl hbb)
        rw [HST.out.ml] at HQS
        clear hpl hbb
        go_wp2_with fail
        refine HQS.out.mono ?_
        intro e w5 hpost
        have HPO := Lib.hid hpost
        obtain ⟨rfl, _⟩ := hpost
        obtain ⟨m', hst'⟩ := HST.out.put hltx (by rw [HYY.out.1]) HBV.out (by rw [HYY.out.1]; exact HPO.out)
        have HS' := Lib.hid hst'
        clear hst' HQS HPO o0 o1 o2 o3 o4 o5 o6 o7 o8 o9 t0 t1 t2 t3 t4 t5
        go_wp2
        go_roundw
        case rel => exact ⟨k + 1, m', by go_num, by omega, HS'⟩
        case measure => simp [intOf]; omega
    · have hkI : ¬ (k : Int) < (l2.length : Int) := by omega
      have HMF : Hid (m.map Prod.fst = mgGo ys xs) := by
        have := HST.out.mf
        rw [List.take_of_length_le (by have := HNL.out; omega)] at this
        exact this
      obtain ⟨⟨o0, o1, o2, o3, o4, o5, o6, o7, o8, o9⟩, hbz, _, hz1, hz2, hbw⟩ := HZ.out
      obtain ⟨x0, x1, x2, x3, x4, x5, x6, x7, x8, x9⟩ := (⟨hbz.1 0 _ rfl, hbz.1 1 _ rfl, hbz.1 2 _ rfl, hbz.1 3 _ rfl, hbz.1 4 _ rfl, hbz.1 5 _ rfl, hbz.1 6 _ rfl, hbz.1 7 _ rfl, hbz.1 8 _ rfl, hbz.1 9 _ rfl⟩ : _ ∧ _ ∧ _ ∧ _ ∧ _ ∧ _ ∧ _ ∧ _ ∧ _ ∧ _)
      have xf := hbz.2
      have HBW := Lib.hid hbw
      clear hbz hbw
      go_wp2
      refine bodyPost_ret (v := .tuple #[meVal r (some ⟨g, 0, none⟩) l.length cn, .int .i64 0]) (by simp [results, Try.results33, go_sem, x0, x1, x2, x3, x4, x5, x6, x7, x8, x9, xf, hz1, meVal, meCells]) rfl ?_
      rw [HE2.out]
      refine ⟨m, some ⟨g, 0, none⟩, cn, HMF.out, by rw [HST.out.ml], ?_, ?_⟩
      · have k0 := HST.out.pc
        have := HG.out
        refine Pcs.le (base := w2.heap.size) ?_ HG.out.1
        repeat (first | (with_reducible exact k0) | ((with_reducible refine Pcs.setBelow ?_ ?_ _); rotate_left; omega))
      · have k0 := HBW.out
        repeat (first | (with_reducible exact k0) | ((with_reducible refine Below.setCell ?_ ?_ _); rotate_left; (simp <;> omega)))

set_option maxRecDepth 100000 in
set_option maxHeartbeats 16000000 in
theorem sMergeMemories_c (r : R) (l : List (Sl × SA)) (a : Option Addr) (c : Nat) (r2 : R) (l2 : List (Sl × SA)) (a2 : Option Addr) (c2' : Nat) (w : World) (h : SRows w a l) (hl : l.length ≤ 1048576) (hm : ∀ x ∈ l, x.1.pits.length ≤ 1048576) (h2 : SRows w a2 l2) (hl2 : l2.length ≤ 1048576) (hm2 : ∀ x ∈ l2, x.1.pits.length ≤ 1048576) :
    Calls Try.prog 32 #[meVal r a l.length c, meVal r2 a2 l2.length c2'] w (MRes2 w (mergeP r (l.map Prod.fst) r2 (l2.map Prod.fst))) := by
  have F0 := (((Fr.start w).alloc #[.int .i64 r.pits, .int .i64 r.seeds, .bool r.stores, .bool r.skip, .bool r.relay, .bool r.feed, .bool r.again, .int .i64 r.capture, .int .i64 r.slam, .slice a l.length c] 52).alloc #[.int .i64 r2.pits, .int .i64 r2.seeds, .bool r2.stores, .bool r2.skip, .bool r2.relay, .bool r2.feed, .bool r2.again, .int .i64 r2.capture, .int .i64 r2.slam, .slice a2 l2.length c2'] 52).allocF #[.int .i64 rZ.pits, .int .i64 rZ.seeds, .bool rZ.stores, .bool rZ.skip, .bool rZ.relay, .bool rZ.feed, .bool rZ.again, .int .i64 rZ.capture, .int .i64 rZ.slam, .slice none 0 0] 52
  simp only [World.size_alloc, rZ] at F0
  obtain ⟨W0, hW0⟩ : ∃ W, W = ((w.alloc (.cells #[.int .i64 r.pits, .int .i64 r.seeds, .bool r.stores, .bool r.skip, .bool r.relay, .bool r.feed, .bool r.again, .int .i64 r.capture, .int .i64 r.slam, .slice a l.length c] 52)).alloc (.cells #[.int .i64 r2.pits, .int .i64 r2.seeds, .bool r2.stores, .bool r2.skip, .bool r2.relay, .bool r2.feed, .bool r2.again, .int .i64 r2.capture, .int .i64 r2.slam, .slice a2 l2.length c2'] 52)).alloc (.cells #[.int .i64 0, .int .i64 0, .bool false, .bool false, .bool false, .bool false, .bool false, .int .i64 0, .int .i64 0, .slice none 0 0] 52) := ⟨_, rfl⟩
  rw [← hW0] at F0
  have HF0 := Lib.hid F0
  have HC : Hid (∀ W, Below W0.heap.size W0 W → (W.cell? ⟨w.heap.size, 0, none⟩ = some (.int .i64 r.pits) ∧ W.cell? ⟨w.heap.size, 1, none⟩ = some (.int .i64 r.seeds) ∧ W.cell? ⟨w.heap.size, 2, none⟩ = some (.bool r.stores) ∧ W.cell? ⟨w.heap.size, 3, none⟩ = some (.bool r.skip) ∧ W.cell? ⟨w.heap.size, 4, none⟩ = some (.bool r.relay) ∧ W.cell? ⟨w.heap.size, 5, none⟩ = some (.bool r.feed) ∧ W.cell? ⟨w.heap.size, 6, none⟩ = some (.bool r.again) ∧ W.cell? ⟨w.heap.size, 7, none⟩ = some (.int .i64 r.capture) ∧ W.cell? ⟨w.heap.size, 8, none⟩ = some (.int .i64 r.slam) ∧ W.cell? ⟨w.heap.size, 9, none⟩ = some (.slice a l.length c)) ∧ (W.cell? ⟨w.heap.size + 1, 0, none⟩ = some (.int .i64 r2.pits) ∧ W.cell? ⟨w.heap.size + 1, 1, none⟩ = some (.int .i64 r2.seeds) ∧ W.cell? ⟨w.heap.size + 1, 2, none⟩ = some (.bool r2.stores) ∧ W.cell? ⟨w.heap.size + 1, 3, none⟩ = some (.bool r2.skip) ∧ W.cell? ⟨w.heap.size + 1, 4, none⟩ = some (.bool r2.relay) ∧ W.cell? ⟨w.heap.size + 1, 5, none⟩ = some (.bool r2.feed) ∧ W.cell? ⟨w.heap.size + 1, 6, none⟩ = some (.bool r2.again) ∧ W.cell? ⟨w.heap.size + 1, 7, none⟩ = some (.int .i64 r2.capture) ∧ W.cell? ⟨w.heap.size + 1, 8, none⟩ = some (.int .i64 r2.slam) ∧ W.cell? ⟨w.heap.size + 1, 9, none⟩ = some (.slice a2 l2.length c2')) ∧ BoxF (w.heap.size + 1 + 1) [.int .i64 0, .int .i64 0, .bool false, .bool false, .bool false, .bool false, .bool false, .int .i64 0, .int .i64 0, .slice none 0 0] W ∧ SRows W a l ∧ SRows W a2 l2 ∧ Below w.heap.size w W ∧ w.heap.size + 1 + 1 < W.heap.size) := fun W hW => by
    have F := HF0.out.step hW
    exact ⟨me_box (F.at 2 rfl), me_box (F.at 1 rfl), F.at 0 rfl, h.below F.below (Nat.le_refl _), h2.below F.below (Nat.le_refl _), F.below, F.le 0 rfl⟩
  have HW0 := Lib.hid hW0
  obtain ⟨Y, hY⟩ : ∃ Y, Y = mergeP r (l.map Prod.fst) r2 (l2.map Prod.fst) := ⟨_, rfl⟩
  rw [← hY]
  obtain ⟨b0, hb0⟩ : ∃ b, b = meOk r (l.map Prod.fst) := ⟨_, rfl⟩
  obtain ⟨b1, hb1⟩ : ∃ b, b = meOk r2 (l2.map Prod.fst) := ⟨_, rfl⟩
  have HE : Hid (Y = if b0 = false then ((rZ, []), 1) else if b1 = false then ((rZ, []), 1) else if rEq r r2 = false then ((rZ, []), 6) else if l.length = l2.length then ((r, mgGo (l2.map Prod.fst) (l.map Prod.fst)), 0) else ((rZ, []), 6)) := by unfold Hid; rw [hY, hb0, hb1, mergeP, List.length_map, List.length_map]
  obtain ⟨hM0, _, _, hS0, _, _, _⟩ := HC.out W0 (Below.refl _ _)
  have H0 := Lib.hid (hb0 ▸ l16Ok_c w.heap.size 0 r l a c W0 ⟨hM0.1, hM0.2.1, hM0.2.2.1, hM0.2.2.2.1, hM0.2.2.2.2.1, hM0.2.2.2.2.2.1, hM0.2.2.2.2.2.2.1, hM0.2.2.2.2.2.2.2.1, hM0.2.2.2.2.2.2.2.2.1⟩ hM0.2.2.2.2.2.2.2.2.2 hS0 hl hm)
  have H1 := Lib.hid (fun (W : World) (hW : Below W0.heap.size W0 W) => hb1 ▸ l16Ok_c (w.heap.size + 1) 0 r2 l2 a2 c2' W (me_at (HC.out W hW).2.1).1 (me_at (HC.out W hW).2.1).2 (HC.out W hW).2.2.2.2.1 hl2 hm2)
  have HOK0 : Hid (b0 = true → meOk r (l.map Prod.fst) = true) := fun e => by rw [← hb0, e]
  have HOK1 : Hid (b1 = true → meOk r2 (l2.map Prod.fst) = true) := fun e => by rw [← hb1, e]
  have HM := Lib.hid hm
  have HM2 := Lib.hid hm2
  have HS2 := Lib.hid h2
  clear hb0 hb1 hY h hm h2 hm2 hW0 F0 hS0
  obtain ⟨c0, c1, c2, c3, c4, c5, c6, c7, c8, c9⟩ := hM0
  simp only [meVal, meCells]
  go_enter Try.func32, Try.ntmps32
  go_upto_region 1 with fail
  rw [← HW0.out]
  go_wp2_with fail
  refine H0.out.mono ?_
  rintro e w1 ⟨rfl, hb1⟩
  have HB := Lib.hid hb1
  obtain ⟨⟨c0, c1, c2, c3, c4, c5, c6, c7, c8, c9⟩, ⟨d0, d1, d2, d3, d4, d5, d6, d7, d8, d9⟩, hX1, _, _, hBw1, hz⟩ := HC.out _ hb1
  obtain ⟨x0, x1, x2, x3, x4, x5, x6, x7, x8, x9⟩ := (⟨hX1.1 0 _ rfl, hX1.1 1 _ rfl, hX1.1 2 _ rfl, hX1.1 3 _ rfl, hX1.1 4 _ rfl, hX1.1 5 _ rfl, hX1.1 6 _ rfl, hX1.1 7 _ rfl, hX1.1 8 _ rfl, hX1.1 9 _ rfl⟩ : _ ∧ _ ∧ _ ∧ _ ∧ _ ∧ _ ∧ _ ∧ _ ∧ _ ∧ _)
  have xf := hX1.2
  have HBw := Lib.hid hBw1
  clear hb1 hBw1 hX1
  cases b0
  case false =>
    have HE2 := Lib.hid (HE.out.trans (if_pos rfl))
    clear c0 c1 c2 c3 c4 c5 c6 c7 c8 c9 d0 d1 d2 d3 d4 d5 d6 d7 d8 d9
    go_wp2
    refine bodyPost_ret (v := .tuple #[meVal rZ none 0 0, .int .i64 1]) (by simp [results, Try.results32, go_sem, x0, x1, x2, x3, x4, x5, x6, x7, x8, x9, xf, hz, meVal, meCells, rZ]) rfl ?_
    rw [HE2.out]
    refine ⟨[], none, 0, rfl, rfl, ⟨fun q hq => by obtain rfl := List.mem_singleton.1 hq; exact World.ownsRow_nil _ _ _ _, List.pairwise_singleton _ _⟩, ?_⟩
    have k0 := HBw.out
    repeat (first | (with_reducible exact k0) | ((with_reducible refine Below.setCell ?_ ?_ _); rotate_left; (simp <;> omega)))
  have HE1 := Lib.hid (HE.out.trans (if_neg (by simp)))
  have HQ1 := Lib.hid (H1.out w1 HB.out)
  clear HE H1
  go_wp2_with fail
  refine HQ1.out.mono ?_
  rintro e w2 ⟨rfl, hb2⟩
  have HB2 := Lib.hid (below_next HB.out hb2)
  clear HBw
  obtain ⟨⟨c0, c1, c2, c3, c4, c5, c6, c7, c8, c9⟩, ⟨d0, d1, d2, d3, d4, d5, d6, d7, d8, d9⟩, hX1, _, _, hBw1, hz⟩ := HC.out _ HB2.out
  obtain ⟨x0, x1, x2, x3, x4, x5, x6, x7, x8, x9⟩ := (⟨hX1.1 0 _ rfl, hX1.1 1 _ rfl, hX1.1 2 _ rfl, hX1.1 3 _ rfl, hX1.1 4 _ rfl, hX1.1 5 _ rfl, hX1.1 6 _ rfl, hX1.1 7 _ rfl, hX1.1 8 _ rfl, hX1.1 9 _ rfl⟩ : _ ∧ _ ∧ _ ∧ _ ∧ _ ∧ _ ∧ _ ∧ _ ∧ _ ∧ _)
  have xf := hX1.2
  have HBw := Lib.hid hBw1
  clear hb2 hBw1 hX1
  cases b1
  case false =>
    have HE2 := Lib.hid (HE1.out.trans (if_pos rfl))
    clear c0 c1 c2 c3 c4 c5 c6 c7 c8 c9 d0 d1 d2 d3 d4 d5 d6 d7 d8 d9
    go_wp2
    refine bodyPost_ret (v := .tuple #[meVal rZ none 0 0, .int .i64 1]) (by simp [results, Try.results32, go_sem, x0, x1, x2, x3, x4, x5, x6, x7, x8, x9, xf, hz, meVal, meCells, rZ]) rfl ?_
    rw [HE2.out]
    refine ⟨[], none, 0, rfl, rfl, ⟨fun q hq => by obtain rfl := List.mem_singleton.1 hq; exact World.ownsRow_nil _ _ _ _, List.pairwise_singleton _ _⟩, ?_⟩
    have k0 := HBw.out
    repeat (first | (with_reducible exact k0) | ((with_reducible refine Below.setCell ?_ ?_ _); rotate_left; (simp <;> omega)))
  have HE3 := Lib.hid (HE1.out.trans (if_neg (by simp)))
  clear HE1 HQ1
  by_cases hr : r = r2
  rotate_left
  · have hq := rEq_ne hr
    have HE2 := Lib.hid (HE3.out.trans (if_pos hq))
    clear hr
    go_wp2
    refine bodyPost_ret (v := .tuple #[meVal rZ none 0 0, .int .i64 6]) (by simp [results, Try.results32, go_sem, x0, x1, x2, x3, x4, x5, x6, x7, x8, x9, xf, hz, meVal, meCells, rZ]) rfl ?_
    rw [HE2.out]
    refine ⟨[], none, 0, rfl, rfl, ⟨fun q hq => by obtain rfl := List.mem_singleton.1 hq; exact World.ownsRow_nil _ _ _ _, List.pairwise_singleton _ _⟩, ?_⟩
    have k0 := HBw.out
    repeat (first | (with_reducible exact k0) | ((with_reducible refine Below.setCell ?_ ?_ _); rotate_left; (simp <;> omega)))
  subst hr
  have hq := rEq_self r
  have HE4 := Lib.hid (HE3.out.trans (if_neg (by rw [hq]; simp)))
  clear HE3
  by_cases hlen : l.length = l2.length
  rotate_left
  · have HE2 := Lib.hid (HE4.out.trans (if_neg hlen))
    have hT : ((l.length : Int) != l2.length) = true := by simp; omega
    clear hlen
    go_wp2
    refine bodyPost_ret (v := .tuple #[meVal rZ none 0 0, .int .i64 6]) (by simp [results, Try.results32, go_sem, x0, x1, x2, x3, x4, x5, x6, x7, x8, x9, xf, hz, meVal, meCells, rZ]) rfl ?_
    rw [HE2.out]
    refine ⟨[], none, 0, rfl, rfl, ⟨fun q hq => by obtain rfl := List.mem_singleton.1 hq; exact World.ownsRow_nil _ _ _ _, List.pairwise_singleton _ _⟩, ?_⟩
    have k0 := HBw.out
    repeat (first | (with_reducible exact k0) | ((with_reducible refine Below.setCell ?_ ?_ _); rotate_left; (simp <;> omega)))
  have HE2 := Lib.hid (HE4.out.trans (if_pos hlen))
  have hT : ((l.length : Int) != l2.length) = false := by simp; omega
  have HLEN := Lib.hid hlen
  clear HE4 hlen
  obtain ⟨_, ⟨hn0, hn1⟩, _⟩ := meOk_parts (HOK0.out (by simp))
  rw [List.length_map] at hn0 hn1
  have HQ := Lib.hid (l16Own_c w.heap.size 0 r l a c w2 ⟨c0, c1, c2, c3, c4, c5, c6, c7, c8⟩ c9 (HC.out _ HB2.out).2.2.2.1 (by omega) HM.out)
  clear HOK0 H0
  go_wp2_with fail
  refine HQ.out.mono ?_
  rintro e w3 ⟨m, a3, cn, hmf, rfl, hp3, hb3⟩
  have hml : m.length = l.length := by have := congrArg List.length hmf; simpa using this
  obtain ⟨g, hg, hg1, hg2⟩ := own_lt_n (hp3.all _ (List.mem_cons_self ..)) (by omega)
  subst hg
  rw [hml]
  have hbw3 := below_next HB2.out hb3
  obtain ⟨_, hD3, hX3, _, _, hBw3, hz3⟩ := HC.out _ hbw3
  have hD3' : BoxP (w.heap.size + 1) (meCells r a2 l2.length c2').toList w3 := (HF0.out.step hbw3).at 1 rfl
  have FX := ((((Fr.from hBw3).add _ _ _ (BoxP.stab _ _) hD3' (by omega)).add _ _ _ (BoxF.stab _ _) hX3 (by omega)).alloc #[.int .i64 r.pits, .int .i64 r.seeds, .bool r.stores, .bool r.skip, .bool r.relay, .bool r.feed, .bool r.again, .int .i64 r.capture, .int .i64 r.slam, .slice (some ⟨g, 0, none⟩) l.length cn] 52)
  obtain ⟨W1, hW1⟩ : ∃ W, W = w3.alloc (.cells #[.int .i64 r.pits, .int .i64 r.seeds, .bool r.stores, .bool r.skip, .bool r.relay, .bool r.feed, .bool r.again, .int .i64 r.capture, .int .i64 r.slam, .slice (some ⟨g, 0, none⟩) l.length cn] 52) := ⟨_, rfl⟩
  rw [← hW1] at FX
  have hp1 : Pcs W1 w2.heap.size (slRL.pcs (some ⟨g, 0, none⟩) cn m) := pcs_below hp3 (by rw [hW1]; exact below_alloc1 _ _)
  have hs1 : w3.heap.size < W1.heap.size := FX.le 0 rfl
  have HFX := Lib.hid FX
  have HKK : Hid (∀ W, Chg g (g + 1) W1 W → (W.cell? ⟨w3.heap.size, 0, none⟩ = some (.int .i64 r.pits) ∧ W.cell? ⟨w3.heap.size, 1, none⟩ = some (.int .i64 r.seeds) ∧ W.cell? ⟨w3.heap.size, 2, none⟩ = some (.bool r.stores) ∧ W.cell? ⟨w3.heap.size, 3, none⟩ = some (.bool r.skip) ∧ W.cell? ⟨w3.heap.size, 4, none⟩ = some (.bool r.relay) ∧ W.cell? ⟨w3.heap.size, 5, none⟩ = some (.bool r.feed) ∧ W.cell? ⟨w3.heap.size, 6, none⟩ = some (.bool r.again) ∧ W.cell? ⟨w3.heap.size, 7, none⟩ = some (.int .i64 r.capture) ∧ W.cell? ⟨w3.heap.size, 8, none⟩ = some (.int .i64 r.slam) ∧ W.cell? ⟨w3.heap.size, 9, none⟩ = some (.slice (some ⟨g, 0, none⟩) l.length cn)) ∧ BoxF (w.heap.size + 1 + 1) [.int .i64 0, .int .i64 0, .bool false, .bool false, .bool false, .bool false, .bool false, .int .i64 0, .int .i64 0, .slice none 0 0] W ∧ (W.cell? ⟨w.heap.size + 1, 0, none⟩ = some (.int .i64 r.pits) ∧ W.cell? ⟨w.heap.size + 1, 1, none⟩ = some (.int .i64 r.seeds) ∧ W.cell? ⟨w.heap.size + 1, 2, none⟩ = some (.bool r.stores) ∧ W.cell? ⟨w.heap.size + 1, 3, none⟩ = some (.bool r.skip) ∧ W.cell? ⟨w.heap.size + 1, 4, none⟩ = some (.bool r.relay) ∧ W.cell? ⟨w.heap.size + 1, 5, none⟩ = some (.bool r.feed) ∧ W.cell? ⟨w.heap.size + 1, 6, none⟩ = some (.bool r.again) ∧ W.cell? ⟨w.heap.size + 1, 7, none⟩ = some (.int .i64 r.capture) ∧ W.cell? ⟨w.heap.size + 1, 8, none⟩ = some (.int .i64 r.slam) ∧ W.cell? ⟨w.heap.size + 1, 9, none⟩ = some (.slice a2 l2.length c2')) ∧ w.heap.size + 1 + 1 < W.heap.size ∧ w3.heap.size < W.heap.size ∧ Below w.heap.size w W) := fun W hW => by
    have hsz := hW.size
    exact ⟨me_box (BoxP.stab _ _ W1 W (HFX.out.at 0 rfl) (fun b h1 h2 => hW.block b (by omega) (by omega))), BoxF.stab _ _ W1 W (HFX.out.at 1 rfl) (fun b h1 h2 => hW.block b (by omega) (by omega)), me_box (BoxP.stab _ _ W1 W (HFX.out.at 2 rfl) (fun b h1 h2 => hW.block b (by omega) (by omega))), by omega, by omega, hW.below HFX.out.below (by omega)⟩
  have HST0 : Hid (MgSt W1 W1 w2.heap.size g cn 0 l.length (l2.map Prod.fst) (l.map Prod.fst) m) := ⟨hml, by rw [hmf]; rfl, hp1, Chg.refl _ _ _⟩
  have HNL : Hid ((l2.map Prod.fst).length = l2.length) := List.length_map _
  have HVAL : Hid (∀ k (hk : k < l2.length), l2[k].1.okAt r l2.length ((0 + k : Nat) : Int) = true) := fun k hk => by
    have h1 := (meOk_parts (HOK1.out (by simp))).2.2
    rw [List.length_map] at h1
    exact okGo_at (k := k) h1 (by simp [hk])
  have HGET : Hid (∀ k (hk : k < (l2.map Prod.fst).length) (hk' : k < l2.length), (l2.map Prod.fst)[k] = l2[k].1) := fun k hk hk' => by simp
  obtain ⟨xs, hxs⟩ : ∃ xs, xs = l.map Prod.fst := ⟨_, rfl⟩
  obtain ⟨ys, hys⟩ : ∃ ys, ys = l2.map Prod.fst := ⟨_, rfl⟩
  rw [← hxs, ← hys] at HST0 HE2
  rw [← hys] at HNL
  have HGET2 : Hid (∀ k (hk : k < ys.length) (hk' : k < l2.length), ys[k] = l2[k].1) := fun k hk hk' => by subst hys; exact HGET.out k hk hk'
  have HW1 := Lib.hid hW1
  have HG : Hid (w.heap.size ≤ w2.heap.size ∧ g < w3.heap.size ∧ w2.heap.size ≤ g ∧ w3.heap.size < W1.heap.size ∧ w.heap.size + 1 + 1 < w2.heap.size) := ⟨by omega, hg2, hg1, hs1, hz⟩
  obtain ⟨⟨o0, o1, o2, o3, o4, o5, o6, o7, o8, o9⟩, _, ⟨d0, d1, d2, d3, d4, d5, d6, d7, d8, d9⟩, _, _, _⟩ := HKK.out W1 (Chg.refl _ _ _)
  clear hxs hys hmf hml hp3 hp1 hb3 hbw3 hX3 hBw3 hD3 hD3' FX hW1 HFX hs1 hg1 hg2 c0 c1 c2 c3 c4 c5 c6 c7 c8 c9 x0 x1 x2 x3 x4 x5 x6 x7 x8 x9 xf HGET HOK1 hT hq
  go_upto_region 6 with fail
  rw [← HW1.out]
  go_wp2_with fail
  clear o0 o1 o2 o3 o4 o5 o6 o7 o8 o9 d0 d1 d2 d3 d4 d5 d6 d7 d8 d9
  go_loopw [7] (fun i wr => ∃ (k : Nat) (m : List (Sl × SA)), i = .int .i64 k ∧ k ≤ l2.length ∧ Hid (MgSt W1 wr w2.heap.size g cn k l.length ys xs m)) (fun i _ => l2.length - (intOf i).toNat)
  case atStart => exact ⟨0, m, rfl, Nat.zero_le _, HST0⟩
  case round =>
    clear HST0 m
    obtain ⟨k, m, rfl, hk, HST⟩ := hrel
    have HZ := Lib.hid (HKK.out wr HST.out.cg)
    have b9 : wr.cell? ⟨w.heap.size + 1, 9, none⟩ = some (.slice a2 l2.length c2') := HZ.out.2.2.1.2.2.2.2.2.2.2.2.2
    by_cases hlt : k < l2.length
    · have hkI : (k : Int) < (l2.length : Int) := by omega
      have hltx : k < ys.length := by have := HNL.out; omega
      have hs := HS2.out.below HZ.out.2.2.2.2.2 (Nat.le_refl _)
      obtain ⟨b, off, ha, hb, s0, s1, s2, s3, s4, s5⟩ := hs.at (k := k) (x := l2[k]) (by simp [hlt])
      have hb0 : b < w.heap.size := by
        obtain ⟨b', off', ha', hb', _⟩ := HS2.out.at (k := k) (x := l2[k]) (by simp [hlt])
        rw [ha] at ha'
        cases ha'
        exact hb'
      have HI := Lib.hid (hs.items l2[k] (List.getElem_mem hlt))
      have HX := Lib.hid (HM2.out l2[k] (List.getElem_mem hlt))
      have HXX : Hid (∀ z : Sl × SA, z = l2[k] → ys[k] = z.1 ∧ z.1.okAt r l2.length ((0 + k : Nat) : Int) = true) := fun z hz => by rw [hz]; exact ⟨HGET2.out k hltx hlt, HVAL.out k hlt⟩
      obtain ⟨y, hy⟩ : ∃ y, y = l2[k] := ⟨_, rfl⟩
      have HYY := Lib.hid (HXX.out y hy)
      rw [← hy] at s0 s1 s2 s3 s4 s5 HI HX
      obtain ⟨⟨used, pits, pl, dp, vl, bd⟩, ka⟩ := y
      dsimp only at s0 s1 s2 s3 s4 s5 HI HX HYY
      subst ha
      clear hy HXX hs
      have hob : w3.heap.size < wr.heap.size := HZ.out.2.2.2.2.1
      cases used
      · have HSK := Lib.hid (HST.out.skip hltx (by rw [HYY.out.1]) (Below.refl _ _))
        go_wp2
        go_roundw
        case rel => exact ⟨k + 1, m, by go_num, by omega, HSK⟩
        case measure => simp [intOf]; omega
      · obtain ⟨hpl, hbb⟩ := okAt_used HYY.out.2 rfl
        have o9 : wr.cell? ⟨w3.heap.size, 0 + 9, none⟩ = some (.slice (some ⟨g, 0, none⟩) l.length cn) := HZ.out.1.2.2.2.2.2.2.2.2.2
        rw [← HST.out.ml] at o9
        have HQS := Lib.hid (l16Store_c w3.heap.size 0 b (off + k * 6) m g cn w2.heap.size ⟨true, pits, pl, dp, vl, bd⟩ ka wr o9 (by have := HG.out; omega) HST.out.pc (by rw [HST.out.ml]; omega) ⟨s0, s1, s2, s3, s4, s5⟩ (by have := HG.out; omega) HI.out HX.out hpl hbb)
        clear hpl hbb o9
        go_wp2_with fail
        refine HQS.out.mono ?_
        intro e w5 hpost
        have HPO := Lib.hid hpost
        obtain ⟨rfl, _⟩ := hpost
        obtain ⟨m', hst'⟩ := HST.out.put hltx (by rw [HYY.out.1]) (Below.refl _ _) (by rw [HYY.out.1]; exact HPO.out)
        have HS' := Lib.hid hst'
        clear hst' HQS HPO s0 s1 s2 s3 s4 s5 b9
        go_wp2
        go_roundw
        case rel => exact ⟨k + 1, m', by go_num, by omega, HS'⟩
        case measure => simp [intOf]; omega
    · have hkI : ¬ (k : Int) < (l2.length : Int) := by omega
      have HMF : Hid (m.map Prod.fst = mgGo ys xs) := by
        have := HST.out.mf
        rw [List.take_of_length_le (by have := HNL.out; omega)] at this
        exact this
      obtain ⟨⟨o0, o1, o2, o3, o4, o5, o6, o7, o8, o9⟩, hbz, _, hz1, hz2, hbw⟩ := HZ.out
      obtain ⟨x0, x1, x2, x3, x4, x5, x6, x7, x8, x9⟩ := (⟨hbz.1 0 _ rfl, hbz.1 1 _ rfl, hbz.1 2 _ rfl, hbz.1 3 _ rfl, hbz.1 4 _ rfl, hbz.1 5 _ rfl, hbz.1 6 _ rfl, hbz.1 7 _ rfl, hbz.1 8 _ rfl, hbz.1 9 _ rfl⟩ : _ ∧ _ ∧ _ ∧ _ ∧ _ ∧ _ ∧ _ ∧ _ ∧ _ ∧ _)
      have xf := hbz.2
      have HBW := Lib.hid hbw
      clear hbz hbw
      go_wp2
      refine bodyPost_ret (v := .tuple #[meVal r (some ⟨g, 0, none⟩) l.length cn, .int .i64 0]) (by simp [results, Try.results32, go_sem, x0, x1, x2, x3, x4, x5, x6, x7, x8, x9, xf, hz1, meVal, meCells]) rfl ?_
      rw [HE2.out]
      refine ⟨m, some ⟨g, 0, none⟩, cn, HMF.out, by rw [HST.out.ml], ?_, ?_⟩
      · have k0 := HST.out.pc
        have := HG.out
        refine Pcs.le (base := w2.heap.size) ?_ HG.out.1
        repeat (first | (with_reducible exact k0) | ((with_reducible refine Pcs.setBelow ?_ ?_ _); rotate_left; omega))
      · have k0 := HBW.out
        repeat (first | (with_reducible exact k0) | ((with_reducible refine Below.setCell ?_ ?_ _); rotate_left; (simp <;> omega)))
end Go.Proofs.Ytbjgigdkbjabaaa
