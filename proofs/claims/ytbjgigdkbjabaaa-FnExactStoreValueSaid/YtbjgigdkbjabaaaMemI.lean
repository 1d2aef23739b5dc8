/- MemI: a value is stored in a memory: both sides. Each contract holds for every argument, under the premises that it states. Printed by gen/memi.py. -/
import Derived.Test.YtbjgigdkbjabaaaMemH
namespace Go.Proofs.Ytbjgigdkbjabaaa
set_option linter.unusedSimpArgs false
set_option linter.unusedVariables false
set_option linter.unnecessarySimpa false
open Go.RowKit Go.ChangeShapes Go.WideShapes Go.ChangeAt Go.Joins

/-! ### in plain terms -/
def stSl (p : P) (d v b : Int) : Sl := ⟨true, p.pits, p.player, d, v, b⟩
def storeVP (r : R) (xs : List Sl) (p : P) (d v b : Int) : (R × List Sl) × Int :=
  if meOk r xs = false then ((rZ, []), 1) else if p.ok r = false then ((rZ, []), 1) else if valsOk d v b = false then ((rZ, []), 2) else ((r, storeL xs (stSl p d v b)), 0)

set_option maxRecDepth 100000 in
set_option maxHeartbeats 8000000 in
theorem areRemembered_c (r : R) (l : List (Sl × SA)) (a : Option Addr) (c : Nat) (p : P) (pa sa : Option Addr) (pc sc : Nat) (w : World) (h : SRows w a l) (hl : l.length ≤ 1048576) (hm : ∀ x ∈ l, x.1.pits.length ≤ 1048576) (hp : PRow w p pa sa) (h1 : p.pits.length ≤ 16777216) (h2 : p.stores.length ≤ 16777216) :
    Calls Try.prog 86 #[meVal r a l.length c, p.val pa pc sa sc] w fun e w' => e = .returned (.bool (meOk r (l.map Prod.fst) && p.ok r)) ∧ Below w.heap.size w w' := by
  have F0 := ((Fr.start w).alloc (meCells r a l.length c) 52).alloc #[.slice pa p.pits.length pc, .slice sa p.stores.length sc, .int .i64 p.player] 30
  simp only [World.size_alloc, meCells] at F0
  obtain ⟨W0, hW0⟩ : ∃ W, W = (w.alloc (.cells #[.int .i64 r.pits, .int .i64 r.seeds, .bool r.stores, .bool r.skip, .bool r.relay, .bool r.feed, .bool r.again, .int .i64 r.capture, .int .i64 r.slam, .slice a l.length c] 52)).alloc (.cells #[.slice pa p.pits.length pc, .slice sa p.stores.length sc, .int .i64 p.player] 30) := ⟨_, rfl⟩
  rw [← hW0] at F0
  have HC : Hid (∀ W, Below W0.heap.size W0 W → (W.cell? ⟨w.heap.size, 0, none⟩ = some (.int .i64 r.pits) ∧ W.cell? ⟨w.heap.size, 1, none⟩ = some (.int .i64 r.seeds) ∧ W.cell? ⟨w.heap.size, 2, none⟩ = some (.bool r.stores) ∧ W.cell? ⟨w.heap.size, 3, none⟩ = some (.bool r.skip) ∧ W.cell? ⟨w.heap.size, 4, none⟩ = some (.bool r.relay) ∧ W.cell? ⟨w.heap.size, 5, none⟩ = some (.bool r.feed) ∧ W.cell? ⟨w.heap.size, 6, none⟩ = some (.bool r.again) ∧ W.cell? ⟨w.heap.size, 7, none⟩ = some (.int .i64 r.capture) ∧ W.cell? ⟨w.heap.size, 8, none⟩ = some (.int .i64 r.slam) ∧ W.cell? ⟨w.heap.size, 9, none⟩ = some (.slice a l.length c)) ∧ (W.cell? ⟨w.heap.size + 1, 0, none⟩ = some (.slice pa p.pits.length pc) ∧ W.cell? ⟨w.heap.size + 1, 1, none⟩ = some (.slice sa p.stores.length sc) ∧ W.cell? ⟨w.heap.size + 1, 2, none⟩ = some (.int .i64 p.player)) ∧ SRows W a l ∧ PRow W p pa sa ∧ Below w.heap.size w W) := fun W hW => by
    have F := F0.step hW
    exact ⟨me_box (F.at 1 rfl), ⟨F.at 0 rfl 0 _ rfl, F.at 0 rfl 1 _ rfl, F.at 0 rfl 2 _ rfl⟩, h.below F.below (Nat.le_refl _), hp.below F.below (Nat.le_refl _), F.below⟩
  have HW0 := Lib.hid hW0
  obtain ⟨hM0, _, hS0, _, _⟩ := HC.out W0 (Below.refl _ _)
  obtain ⟨c0, c1, c2, c3, c4, c5, c6, c7, c8, c9⟩ := hM0
  have HV := Lib.hid (ValidMemory_c r l a c W0 hS0 hl hm)
  have HPV := Lib.hid (fun (W : World) (hW : Below W0.heap.size W0 W) => ValidPosition_c r p pa sa pc sc W (HC.out W hW).2.2.2.1 h1 h2)
  obtain ⟨b0, hb0⟩ : ∃ b, b = meOk r (l.map Prod.fst) := ⟨_, rfl⟩
  rw [← hb0] at HV ⊢
  clear hb0 h hp hW0 F0 hS0
  simp only [meVal, meCells]
  go_enter Try.func86, Try.ntmps86
  go_upto_region 1 with fail
  rw [← HW0.out]
  go_wp2_with fail
  refine HV.out.mono ?_
  rintro e w1 ⟨rfl, hb1⟩
  have HB := Lib.hid hb1
  obtain ⟨⟨c0, c1, c2, c3, c4, c5, c6, c7, c8, c9⟩, ⟨p0, p1, p2⟩, _, _, hbw⟩ := HC.out _ hb1
  have HBW := Lib.hid hbw
  clear hb1 hbw
  cases b0
  · go_wp2
    go_ret
    exact ⟨rfl, HBW.out⟩
  have HQ := Lib.hid (HPV.out w1 HB.out)
  go_wp2_with fail
  refine HQ.out.mono ?_
  rintro e w2 ⟨rfl, hb2⟩
  have HB2 := Lib.hid (HC.out _ (below_next HB.out hb2)).2.2.2.2
  clear hb2 HQ
  go_wp2
  go_ret
  exact ⟨by simp, HB2.out⟩

set_option maxRecDepth 100000 in
set_option maxHeartbeats 8000000 in
theorem l16Code_c (mb mo pb po : Nat) (r : R) (l : List (Sl × SA)) (a : Option Addr) (c : Nat) (p : P) (pa sa : Option Addr) (pc sc : Nat) (w : World) (hr : R.At w mb mo r) (h9 : w.cell? ⟨mb, mo + 9, none⟩ = some (.slice a l.length c)) (hpt : P.At w pb po p pa pc sa sc) (h : SRows w a l) (hl : l.length ≤ 1048576) (hm : ∀ x ∈ l, x.1.pits.length ≤ 1048576) (hp : PRow w p pa sa) (h1 : p.pits.length ≤ 16777216) (h2 : p.stores.length ≤ 16777216) :
    Calls Try.prog 84 #[.pointer (some ⟨mb, mo, none⟩), .pointer (some ⟨pb, po, none⟩)] w fun e w' => e = .returned (.int .i64 (if (meOk r (l.map Prod.fst) && p.ok r) = true then 0 else 1)) ∧ Below w.heap.size w w' := by
  have hmb : mb < w.heap.size := World.block_lt_of_cell? w _ h9
  have hpb : pb < w.heap.size := World.block_lt_of_cell? w _ hpt.c0
  have HV := Lib.hid (l16Ok_c mb mo r l a c w hr h9 h hl hm)
  have HPV := Lib.hid (fun (W : World) (hW : Below w.heap.size w W) => l04Ok_c mb mo pb po r p pa sa pc sc W (hr.below hW hmb) ⟨(hW.cell (show (Addr.mk pb po none).block < _ from hpb)).trans hpt.c0, (hW.cell (show (Addr.mk pb (po + 1) none).block < _ from hpb)).trans hpt.c1, (hW.cell (show (Addr.mk pb (po + 2) none).block < _ from hpb)).trans hpt.c2⟩ (hp.below hW (Nat.le_refl _)) h1 h2)
  obtain ⟨b0, hb0⟩ : ∃ b, b = meOk r (l.map Prod.fst) := ⟨_, rfl⟩
  obtain ⟨b1, hb1⟩ : ∃ b, b = p.ok r := ⟨_, rfl⟩
  rw [← hb0] at HV ⊢
  rw [← hb1] at HPV ⊢
  clear hb0 hb1 h hp hr hpt h9
  go_enter Try.func84, Try.ntmps84
  go_wp2_with fail
  refine HV.out.mono ?_
  rintro e w1 ⟨rfl, hb1⟩
  have HB := Lib.hid hb1
  have HQ := Lib.hid (HPV.out w1 hb1)
  clear hb1
  cases b0
  · go_wp2
    go_ret
    exact ⟨rfl, HB.out⟩
  go_wp2_with fail
  refine HQ.out.mono ?_
  rintro e w2 ⟨rfl, n, hw2⟩
  have HB2 : Hid (Below w.heap.size w w2) := by rw [hw2]; exact HB.out.trans (below_draws _ _ _)
  clear hw2 HQ
  cases b1
  · go_wp2
    go_ret
    exact ⟨rfl, HB2.out⟩
  · go_wp2
    go_ret
    exact ⟨rfl, HB2.out⟩

set_option maxRecDepth 100000 in
set_option maxHeartbeats 16000000 in
theorem iStoreValue_c (r : R) (l : List (Sl × SA)) (a : Option Addr) (c : Nat) (p : P) (pa sa : Option Addr) (pc sc : Nat) (d v b : Int) (w : World) (h : SRows w a l) (hl : l.length ≤ 1048576) (hm : ∀ x ∈ l, x.1.pits.length ≤ 1048576) (hp : PRow w p pa sa) (h1 : p.pits.length ≤ 1048576) (h2 : p.stores.length ≤ 1048576) :
    Calls Try.prog 35 #[meVal r a l.length c, p.val pa pc sa sc, .int .i64 d, .int .i64 v, .int .i64 b] w (MRes2 w (storeVP r (l.map Prod.fst) p d v b)) := by
  have F0 := (((Fr.start w).alloc #[.int .i64 r.pits, .int .i64 r.seeds, .bool r.stores, .bool r.skip, .bool r.relay, .bool r.feed, .bool r.again, .int .i64 r.capture, .int .i64 r.slam, .slice a l.length c] 52).alloc #[.slice pa p.pits.length pc, .slice sa p.stores.length sc, .int .i64 p.player] 30).allocF #[.int .i64 rZ.pits, .int .i64 rZ.seeds, .bool rZ.stores, .bool rZ.skip, .bool rZ.relay, .bool rZ.feed, .bool rZ.again, .int .i64 rZ.capture, .int .i64 rZ.slam, .slice none 0 0] 52
  simp only [World.size_alloc, rZ] at F0
  obtain ⟨W0, hW0⟩ : ∃ W, W = ((w.alloc (.cells #[.int .i64 r.pits, .int .i64 r.seeds, .bool r.stores, .bool r.skip, .bool r.relay, .bool r.feed, .bool r.again, .int .i64 r.capture, .int .i64 r.slam, .slice a l.length c] 52)).alloc (.cells #[.slice pa p.pits.length pc, .slice sa p.stores.length sc, .int .i64 p.player] 30)).alloc (.cells #[.int .i64 0, .int .i64 0, .bool false, .bool false, .bool false, .bool false, .bool false, .int .i64 0, .int .i64 0, .slice none 0 0] 52) := ⟨_, rfl⟩
  rw [← hW0] at F0
  have HF0 := Lib.hid F0
  have HC : Hid (∀ W, Below W0.heap.size W0 W → (W.cell? ⟨w.heap.size, 0, none⟩ = some (.int .i64 r.pits) ∧ W.cell? ⟨w.heap.size, 1, none⟩ = some (.int .i64 r.seeds) ∧ W.cell? ⟨w.heap.size, 2, none⟩ = some (.bool r.stores) ∧ W.cell? ⟨w.heap.size, 3, none⟩ = some (.bool r.skip) ∧ W.cell? ⟨w.heap.size, 4, none⟩ = some (.bool r.relay) ∧ W.cell? ⟨w.heap.size, 5, none⟩ = some (.bool r.feed) ∧ W.cell? ⟨w.heap.size, 6, none⟩ = some (.bool r.again) ∧ W.cell? ⟨w.heap.size, 7, none⟩ = some (.int .i64 r.capture) ∧ W.cell? ⟨w.heap.size, 8, none⟩ = some (.int .i64 r.slam) ∧ W.cell? ⟨w.heap.size, 9, none⟩ = some (.slice a l.length c)) ∧ (W.cell? ⟨w.heap.size + 1, 0, none⟩ = some (.slice pa p.pits.length pc) ∧ W.cell? ⟨w.heap.size + 1, 1, none⟩ = some (.slice sa p.stores.length sc) ∧ W.cell? ⟨w.heap.size + 1, 2, none⟩ = some (.int .i64 p.player)) ∧ BoxF (w.heap.size + 1 + 1) [.int .i64 0, .int .i64 0, .bool false, .bool false, .bool false, .bool false, .bool false, .int .i64 0, .int .i64 0, .slice none 0 0] W ∧ SRows W a l ∧ PRow W p pa sa ∧ Below w.heap.size w W ∧ w.heap.size + 1 + 1 < W.heap.size) := fun W hW => by
    have F := HF0.out.step hW
    exact ⟨me_box (F.at 2 rfl), ⟨F.at 1 rfl 0 _ rfl, F.at 1 rfl 1 _ rfl, F.at 1 rfl 2 _ rfl⟩, F.at 0 rfl, h.below F.below (Nat.le_refl _), hp.below F.below (Nat.le_refl _), F.below, F.le 0 rfl⟩
  have HW0 := Lib.hid hW0
  obtain ⟨Y, hY⟩ : ∃ Y, Y = storeVP r (l.map Prod.fst) p d v b := ⟨_, rfl⟩
  rw [← hY]
  obtain ⟨bb, hbb⟩ : ∃ z, z = (meOk r (l.map Prod.fst) && p.ok r) := ⟨_, rfl⟩
  obtain ⟨b1, hb1⟩ : ∃ z, z = valsOk d v b := ⟨_, rfl⟩
  have HE : Hid (Y = if bb = false then ((rZ, []), 1) else if b1 = false then ((rZ, []), 2) else ((r, storeL (l.map Prod.fst) (stSl p d v b)), 0)) := by
    unfold Hid
    rw [hY, hbb, hb1, storeVP]
    cases meOk r (l.map Prod.fst) <;> cases p.ok r <;> simp
  obtain ⟨hM0, hP0, _, hS0, hR0, _, _⟩ := HC.out W0 (Below.refl _ _)
  have H0 := Lib.hid (hbb ▸ areRemembered_c r l a c p pa sa pc sc W0 hS0 hl hm hR0 (by omega) (by omega))
  have H1 := Lib.hid (hb1 ▸ validContents_c d v b)
  have HOK : Hid (bb = true → meOk r (l.map Prod.fst) = true ∧ p.ok r = true) := fun e => by rw [hbb, Bool.and_eq_true] at e; exact e
  have HM := Lib.hid hm
  have HPR := Lib.hid hp
  clear hbb hb1 hY h hm hp hW0 F0 hS0 hR0
  obtain ⟨c0, c1, c2, c3, c4, c5, c6, c7, c8, c9⟩ := hM0
  obtain ⟨p0, p1, p2⟩ := hP0
  simp only [meVal, meCells, P.val, P.cells]
  go_enter Try.func35, Try.ntmps35
  go_upto_region 1 with fail
  rw [← HW0.out]
  go_wp2_with fail
  refine H0.out.mono ?_
  rintro e w1 ⟨rfl, hb1'⟩
  have HB := Lib.hid hb1'
  obtain ⟨⟨c0, c1, c2, c3, c4, c5, c6, c7, c8, c9⟩, ⟨p0, p1, p2⟩, hX1, _, _, hBw1, hz⟩ := HC.out _ hb1'
  obtain ⟨x0, x1, x2, x3, x4, x5, x6, x7, x8, x9⟩ := (⟨hX1.1 0 _ rfl, hX1.1 1 _ rfl, hX1.1 2 _ rfl, hX1.1 3 _ rfl, hX1.1 4 _ rfl, hX1.1 5 _ rfl, hX1.1 6 _ rfl, hX1.1 7 _ rfl, hX1.1 8 _ rfl, hX1.1 9 _ rfl⟩ : _ ∧ _ ∧ _ ∧ _ ∧ _ ∧ _ ∧ _ ∧ _ ∧ _ ∧ _)
  have xf := hX1.2
  have HBw := Lib.hid hBw1
  clear hb1' hBw1 hX1
  cases bb
  case false =>
    have HE2 := Lib.hid (HE.out.trans (if_pos rfl))
    clear c0 c1 c2 c3 c4 c5 c6 c7 c8 c9 p0 p1 p2
    go_wp2
    refine bodyPost_ret (v := .tuple #[meVal rZ none 0 0, .int .i64 1]) (by simp [results, Try.results35, go_sem, x0, x1, x2, x3, x4, x5, x6, x7, x8, x9, xf, hz, meVal, meCells, rZ]) rfl ?_
    rw [HE2.out]
    refine ⟨[], none, 0, rfl, rfl, ⟨fun q hq => by obtain rfl := List.mem_singleton.1 hq; exact World.ownsRow_nil _ _ _ _, List.pairwise_singleton _ _⟩, ?_⟩
    have k0 := HBw.out
    repeat (first | (with_reducible exact k0) | ((with_reducible refine Below.setCell ?_ ?_ _); rotate_left; (simp <;> omega)))
  have HE1 := Lib.hid (HE.out.trans (if_neg (by simp)))
  clear HE
  go_wp2_with fail
  refine (H1.out _).mono ?_
  rintro e w2 ⟨rfl, rfl⟩
  cases b1
  case false =>
    have HE2 := Lib.hid (HE1.out.trans (if_pos rfl))
    clear c0 c1 c2 c3 c4 c5 c6 c7 c8 c9 p0 p1 p2
    go_wp2
    refine bodyPost_ret (v := .tuple #[meVal rZ none 0 0, .int .i64 2]) (by simp [results, Try.results35, go_sem, x0, x1, x2, x3, x4, x5, x6, x7, x8, x9, xf, hz, meVal, meCells, rZ]) rfl ?_
    rw [HE2.out]
    refine ⟨[], none, 0, rfl, rfl, ⟨fun q hq => by obtain rfl := List.mem_singleton.1 hq; exact World.ownsRow_nil _ _ _ _, List.pairwise_singleton _ _⟩, ?_⟩
    have k0 := HBw.out
    repeat (first | (with_reducible exact k0) | ((with_reducible refine Below.setCell ?_ ?_ _); rotate_left; (simp <;> omega)))
  have HE2 : Hid (Y = ((r, storeL (l.map Prod.fst) (stSl p d v b)), 0)) := HE1.out.trans (if_neg (by simp))
  obtain ⟨hmo, hpo⟩ := HOK.out (by simp)
  obtain ⟨_, ⟨hn0, hn1⟩, _⟩ := meOk_parts hmo
  rw [List.length_map] at hn0 hn1
  obtain ⟨_, ⟨pn, hpn, hpn1⟩, t, hB, ht0, ht⟩ := P.ok_parts hpo
  have HPL : Hid (0 ≤ p.player ∧ p.player ≤ 1) := ⟨by omega, by omega⟩
  have HPB : Hid (∀ z ∈ p.pits, 0 ≤ z ∧ z ≤ 96) := hB.bp ht
  have HQ := Lib.hid (mcopied_c r l a c w1 (HC.out _ HB.out).2.2.2.1 (by omega) HM.out)
  clear HE1 H0 HOK hmo hpo hpn hpn1 hB ht0 ht
  go_wp2_with fail
  refine HQ.out.mono ?_
  rintro e w3 ⟨m, a3, cn, hmf, rfl, hp3, hb3⟩
  have hml : m.length = l.length := by have := congrArg List.length hmf; simpa using this
  obtain ⟨g, hg, hg1, hg2⟩ := own_lt_n (hp3.all _ (List.mem_cons_self ..)) (by omega)
  subst hg
  have hbw3 := below_next HB.out hb3
  obtain ⟨_, _, hX3, _, _, hBw3, hz3⟩ := HC.out _ hbw3
  have hD3' : BoxP (w.heap.size + 1) (p.cells pa pc sa sc).toList w3 := (HF0.out.step hbw3).at 1 rfl
  have FX := ((((Fr.from hBw3).add _ _ _ (BoxP.stab _ _) hD3' (by omega)).add _ _ _ (BoxF.stab _ _) hX3 (by omega)).alloc #[.int .i64 r.pits, .int .i64 r.seeds, .bool r.stores, .bool r.skip, .bool r.relay, .bool r.feed, .bool r.again, .int .i64 r.capture, .int .i64 r.slam, .slice (some ⟨g, 0, none⟩) m.length cn] 52)
  obtain ⟨W1, hW1⟩ : ∃ W, W = w3.alloc (.cells #[.int .i64 r.pits, .int .i64 r.seeds, .bool r.stores, .bool r.skip, .bool r.relay, .bool r.feed, .bool r.again, .int .i64 r.capture, .int .i64 r.slam, .slice (some ⟨g, 0, none⟩) m.length cn] 52) := ⟨_, rfl⟩
  rw [← hW1] at FX
  have hp1 : Pcs W1 w1.heap.size (slRL.pcs (some ⟨g, 0, none⟩) cn m) := pcs_below hp3 (by rw [hW1]; exact below_alloc1 _ _)
  have hs1 : w3.heap.size < W1.heap.size := FX.le 0 rfl
  have HFX := Lib.hid FX
  have HKK : Hid (∀ W, Chg g (g + 1) W1 W → (W.cell? ⟨w3.heap.size, 0, none⟩ = some (.int .i64 r.pits) ∧ W.cell? ⟨w3.heap.size, 1, none⟩ = some (.int .i64 r.seeds) ∧ W.cell? ⟨w3.heap.size, 2, none⟩ = some (.bool r.stores) ∧ W.cell? ⟨w3.heap.size, 3, none⟩ = some (.bool r.skip) ∧ W.cell? ⟨w3.heap.size, 4, none⟩ = some (.bool r.relay) ∧ W.cell? ⟨w3.heap.size, 5, none⟩ = some (.bool r.feed) ∧ W.cell? ⟨w3.heap.size, 6, none⟩ = some (.bool r.again) ∧ W.cell? ⟨w3.heap.size, 7, none⟩ = some (.int .i64 r.capture) ∧ W.cell? ⟨w3.heap.size, 8, none⟩ = some (.int .i64 r.slam) ∧ W.cell? ⟨w3.heap.size, 9, none⟩ = some (.slice (some ⟨g, 0, none⟩) m.length cn)) ∧ BoxF (w.heap.size + 1 + 1) [.int .i64 0, .int .i64 0, .bool false, .bool false, .bool false, .bool false, .bool false, .int .i64 0, .int .i64 0, .slice none 0 0] W ∧ (W.cell? ⟨w.heap.size + 1, 0, none⟩ = some (.slice pa p.pits.length pc) ∧ W.cell? ⟨w.heap.size + 1, 1, none⟩ = some (.slice sa p.stores.length sc) ∧ W.cell? ⟨w.heap.size + 1, 2, none⟩ = some (.int .i64 p.player)) ∧ w.heap.size + 1 + 1 < W.heap.size ∧ w3.heap.size < W.heap.size ∧ Below w.heap.size w W) := fun W hW => by
    have hsz := hW.size
    have hpx : BoxP (w.heap.size + 1) (p.cells pa pc sa sc).toList W := BoxP.stab _ _ W1 W (HFX.out.at 2 rfl) (fun b h1 h2 => hW.block b (by omega) (by omega))
    exact ⟨me_box (BoxP.stab _ _ W1 W (HFX.out.at 0 rfl) (fun b h1 h2 => hW.block b (by omega) (by omega))), BoxF.stab _ _ W1 W (HFX.out.at 1 rfl) (fun b h1 h2 => hW.block b (by omega) (by omega)), ⟨hpx 0 _ rfl, hpx 1 _ rfl, hpx 2 _ rfl⟩, by omega, by omega, hW.below HFX.out.below (by omega)⟩
  obtain ⟨⟨o0, o1, o2, o3, o4, o5, o6, o7, o8, o9⟩, _, ⟨p0, p1, p2⟩, _, _, hBW⟩ := HKK.out W1 (Chg.refl _ _ _)
  have HBW1 := Lib.hid hBW
  have HP1 := Lib.hid hp1
  have HML := Lib.hid hml
  have HMF := Lib.hid hmf
  have HG : Hid (w.heap.size ≤ w1.heap.size ∧ g < w3.heap.size ∧ w1.heap.size ≤ g ∧ w3.heap.size < W1.heap.size ∧ w.heap.size + 1 + 1 < w1.heap.size) := ⟨by omega, hg2, hg1, hs1, hz⟩
  have HW1 := Lib.hid hW1
  clear hmf hml hp3 hp1 hb3 hbw3 hX3 hBw3 hD3' FX hW1 HFX hs1 hg1 hg2 c0 c1 c2 c3 c4 c5 c6 c7 c8 c9 x0 x1 x2 x3 x4 x5 x6 x7 x8 x9 xf hBW
  go_upto_region 6 with fail
  rw [← HW1.out]
  have HQS := Lib.hid (store_c r m g cn w1.heap.size (stSl p d v b) ⟨pa, pc⟩ W1 HP1.out (by have := HML.out; omega) (HPR.out.pits.below HBW1.out (Nat.le_refl _)) h1 HPL.out HPB.out)
  simp only [stSl, Sl.val, Sl.cells] at HQS
  go_wp2_with fail
  refine HQS.out.mono ?_
  rintro e w5 ⟨rfl, m', hm1, hm2, hm3⟩
  have hml' : m'.length = m.length := by have := congrArg List.length hm1; rw [storeL_len, List.length_map, List.length_map] at this; exact this
  have HM1 := Lib.hid hm1
  have HM2 := Lib.hid hm2
  have HML' := Lib.hid hml'
  have hcg : Chg g (g + 1) W1 w5 := hm3
  obtain ⟨⟨o0, o1, o2, o3, o4, o5, o6, o7, o8, o9⟩, hbz, _, hz1, hz2, hbw⟩ := HKK.out w5 hcg
  obtain ⟨x0, x1, x2, x3, x4, x5, x6, x7, x8, x9⟩ := (⟨hbz.1 0 _ rfl, hbz.1 1 _ rfl, hbz.1 2 _ rfl, hbz.1 3 _ rfl, hbz.1 4 _ rfl, hbz.1 5 _ rfl, hbz.1 6 _ rfl, hbz.1 7 _ rfl, hbz.1 8 _ rfl, hbz.1 9 _ rfl⟩ : _ ∧ _ ∧ _ ∧ _ ∧ _ ∧ _ ∧ _ ∧ _ ∧ _ ∧ _)
  have xf := hbz.2
  have HBW := Lib.hid hbw
  clear hbz hbw hm1 hm2 hm3 hml' hcg HQS p0 p1 p2
  go_wp2
  refine bodyPost_ret (v := .tuple #[meVal r (some ⟨g, 0, none⟩) m.length cn, .int .i64 0]) (by simp [results, Try.results35, go_sem, x0, x1, x2, x3, x4, x5, x6, x7, x8, x9, xf, hz1, meVal, meCells]) rfl ?_
  rw [HE2.out]
  refine ⟨m', some ⟨g, 0, none⟩, cn, by rw [HM1.out, HMF.out]; rfl, by rw [HML'.out], ?_, ?_⟩
  · have k0 := HM2.out
    have := HG.out
    refine Pcs.le (base := w1.heap.size) ?_ HG.out.1
    repeat (first | (with_reducible exact k0) | ((with_reducible refine Pcs.setBelow ?_ ?_ _); rotate_left; omega))
  · have k0 := HBW.out
    repeat (first | (with_reducible exact k0) | ((with_reducible refine Below.setCell ?_ ?_ _); rotate_left; (simp <;> omega)))

set_option maxRecDepth 100000 in
set_option maxHeartbeats 16000000 in
theorem sStoreValue_c (r : R) (l : List (Sl × SA)) (a : Option Addr) (c : Nat) (p : P) (pa sa : Option Addr) (pc sc : Nat) (d v b : Int) (w : World) (h : SRows w a l) (hl : l.length ≤ 1048576) (hm : ∀ x ∈ l, x.1.pits.length ≤ 1048576) (hp : PRow w p pa sa) (h1 : p.pits.length ≤ 1048576) (h2 : p.stores.length ≤ 1048576) :
    Calls Try.prog 34 #[meVal r a l.length c, p.val pa pc sa sc, .int .i64 d, .int .i64 v, .int .i64 b] w (MRes2 w (storeVP r (l.map Prod.fst) p d v b)) := by
  have F0 := (((Fr.start w).alloc #[.int .i64 r.pits, .int .i64 r.seeds, .bool r.stores, .bool r.skip, .bool r.relay, .bool r.feed, .bool r.again, .int .i64 r.capture, .int .i64 r.slam, .slice a l.length c] 52).alloc #[.slice pa p.pits.length pc, .slice sa p.stores.length sc, .int .i64 p.player] 30).allocF #[.int .i64 rZ.pits, .int .i64 rZ.seeds, .bool rZ.stores, .bool rZ.skip, .bool rZ.relay, .bool rZ.feed, .bool rZ.again, .int .i64 rZ.capture, .int .i64 rZ.slam, .slice none 0 0] 52
  simp only [World.size_alloc, rZ] at F0
  obtain ⟨W0, hW0⟩ : ∃ W, W = ((w.alloc (.cells #[.int .i64 r.pits, .int .i64 r.seeds, .bool r.stores, .bool r.skip, .bool r.relay, .bool r.feed, .bool r.again, .int .i64 r.capture, .int .i64 r.slam, .slice a l.length c] 52)).alloc (.cells #[.slice pa p.pits.length pc, .slice sa p.stores.length sc, .int .i64 p.player] 30)).alloc (.cells #[.int .i64 0, .int .i64 0, .bool false, .bool false, .bool false, .bool false, .bool false, .int .i64 0, .int .i64 0, .slice none 0 0] 52) := ⟨_, rfl⟩
  rw [← hW0] at F0
  have HF0 := Lib.hid F0
  have HC : Hid (∀ W, Below W0.heap.size W0 W → (W.cell? ⟨w.heap.size, 0, none⟩ = some (.int .i64 r.pits) ∧ W.cell? ⟨w.heap.size, 1, none⟩ = some (.int .i64 r.seeds) ∧ W.cell? ⟨w.heap.size, 2, none⟩ = some (.bool r.stores) ∧ W.cell? ⟨w.heap.size, 3, none⟩ = some (.bool r.skip) ∧ W.cell? ⟨w.heap.size, 4, none⟩ = some (.bool r.relay) ∧ W.cell? ⟨w.heap.size, 5, none⟩ = some (.bool r.feed) ∧ W.cell? ⟨w.heap.size, 6, none⟩ = some (.bool r.again) ∧ W.cell? ⟨w.heap.size, 7, none⟩ = some (.int .i64 r.capture) ∧ W.cell? ⟨w.heap.size, 8, none⟩ = some (.int .i64 r.slam) ∧ W.cell? ⟨w.heap.size, 9, none⟩ = some (.slice a l.length c)) ∧ (W.cell? ⟨w.heap.size + 1, 0, none⟩ = some (.slice pa p.pits.length pc) ∧ W.cell? ⟨w.heap.size + 1, 1, none⟩ = some (.slice sa p.stores.length sc) ∧ W.cell? ⟨w.heap.size + 1, 2, none⟩ = some (.int .i64 p.player)) ∧ BoxF (w.heap.size + 1 + 1) [.int .i64 0, .int .i64 0, .bool false, .bool false, .bool false, .bool false, .bool false, .int .i64 0, .int .i64 0, .slice none 0 0] W ∧ SRows W a l ∧ PRow W p pa sa ∧ Below w.heap.size w W ∧ w.heap.size + 1 + 1 < W.heap.size) := fun W hW => by
    have F := HF0.out.step hW
    exact ⟨me_box (F.at 2 rfl), ⟨F.at 1 rfl 0 _ rfl, F.at 1 rfl 1 _ rfl, F.at 1 rfl 2 _ rfl⟩, F.at 0 rfl, h.below F.below (Nat.le_refl _), hp.below F.below (Nat.le_refl _), F.below, F.le 0 rfl⟩
  have HW0 := Lib.hid hW0
  obtain ⟨Y, hY⟩ : ∃ Y, Y = storeVP r (l.map Prod.fst) p d v b := ⟨_, rfl⟩
  rw [← hY]
  obtain ⟨bb, hbb⟩ : ∃ z, z = (meOk r (l.map Prod.fst) && p.ok r) := ⟨_, rfl⟩
  obtain ⟨b1, hb1⟩ : ∃ z, z = inB d 1 8 := ⟨_, rfl⟩
  obtain ⟨b2, hb2⟩ : ∃ z, z = inB v (-96) 96 := ⟨_, rfl⟩
  obtain ⟨b3, hb3⟩ : ∃ z, z = inB b 0 2 := ⟨_, rfl⟩
  have HE : Hid (Y = if bb = false then ((rZ, []), 1) else if (b1 && b2 && b3) = false then ((rZ, []), 2) else ((r, storeL (l.map Prod.fst) (stSl p d v b)), 0)) := by
    unfold Hid
    rw [hY, hbb, hb1, hb2, hb3, storeVP, valsOk]
    cases meOk r (l.map Prod.fst) <;> cases p.ok r <;> simp
  obtain ⟨hM0, hP0, _, hS0, hR0, _, _⟩ := HC.out W0 (Below.refl _ _)
  have H0 := Lib.hid (l16Code_c w.heap.size 0 (w.heap.size + 1) 0 r l a c p pa sa pc sc W0 (me_at hM0).1 (me_at hM0).2 ⟨hP0.1, hP0.2.1, hP0.2.2⟩ hS0 hl hm hR0 (by omega) (by omega))
  rw [← hbb] at H0
  have H1 := Lib.hid (hb1 ▸ l00In_c d 1 8)
  have H2 := Lib.hid (hb2 ▸ l16Value_c v)
  have H3 := Lib.hid (hb3 ▸ l00In_c b 0 2)
  have HOK : Hid (bb = true → meOk r (l.map Prod.fst) = true ∧ p.ok r = true) := fun e => by rw [hbb, Bool.and_eq_true] at e; exact e
  have HM := Lib.hid hm
  have HPR := Lib.hid hp
  clear hbb hb1 hb2 hb3 hY h hm hp hW0 F0 hS0 hR0
  obtain ⟨c0, c1, c2, c3, c4, c5, c6, c7, c8, c9⟩ := hM0
  obtain ⟨p0, p1, p2⟩ := hP0
  simp only [meVal, meCells, P.val, P.cells]
  go_enter Try.func34, Try.ntmps34
  go_upto_region 1 with fail
  rw [← HW0.out]
  go_wp2_with fail
  refine H0.out.mono ?_
  rintro e w1 ⟨rfl, hb1'⟩
  obtain ⟨cd, hcd⟩ : ∃ z : Int, z = if bb = true then 0 else 1 := ⟨_, rfl⟩
  have HCD := Lib.hid hcd
  rw [← hcd]
  clear hcd
  have HB := Lib.hid hb1'
  obtain ⟨⟨c0, c1, c2, c3, c4, c5, c6, c7, c8, c9⟩, ⟨p0, p1, p2⟩, hX1, _, _, hBw1, hz⟩ := HC.out _ hb1'
  obtain ⟨x0, x1, x2, x3, x4, x5, x6, x7, x8, x9⟩ := (⟨hX1.1 0 _ rfl, hX1.1 1 _ rfl, hX1.1 2 _ rfl, hX1.1 3 _ rfl, hX1.1 4 _ rfl, hX1.1 5 _ rfl, hX1.1 6 _ rfl, hX1.1 7 _ rfl, hX1.1 8 _ rfl, hX1.1 9 _ rfl⟩ : _ ∧ _ ∧ _ ∧ _ ∧ _ ∧ _ ∧ _ ∧ _ ∧ _ ∧ _)
  have xf := hX1.2
  have HBw := Lib.hid hBw1
  clear hb1' hBw1 hX1
  cases bb
  case false =>
    have hcd : (cd != 0) = true := by rw [HCD.out]; rfl
    obtain rfl : cd = 1 := HCD.out
    have HE2 := Lib.hid (HE.out.trans (if_pos rfl))
    clear c0 c1 c2 c3 c4 c5 c6 c7 c8 c9 p0 p1 p2
    go_wp2
    refine bodyPost_ret (v := .tuple #[meVal rZ none 0 0, .int .i64 1]) (by simp [results, Try.results34, go_sem, x0, x1, x2, x3, x4, x5, x6, x7, x8, x9, xf, hz, meVal, meCells, rZ]) rfl ?_
    rw [HE2.out]
    refine ⟨[], none, 0, rfl, rfl, ⟨fun q hq => by obtain rfl := List.mem_singleton.1 hq; exact World.ownsRow_nil _ _ _ _, List.pairwise_singleton _ _⟩, ?_⟩
    have k0 := HBw.out
    repeat (first | (with_reducible exact k0) | ((with_reducible refine Below.setCell ?_ ?_ _); rotate_left; (simp <;> omega)))
  have HE1 := Lib.hid (HE.out.trans (if_neg (by simp)))
  obtain rfl : cd = 0 := HCD.out
  clear HE HCD
  go_wp2_with fail
  refine (H1.out _).mono ?_
  rintro e w2 ⟨rfl, rfl⟩
  cases b1
  case false =>
    have HE2 : Hid (Y = ((rZ, []), 2)) := HE1.out.trans (if_pos (by simp))
    clear c0 c1 c2 c3 c4 c5 c6 c7 c8 c9 p0 p1 p2
    go_wp2
    refine bodyPost_ret (v := .tuple #[meVal rZ none 0 0, .int .i64 2]) (by simp [results, Try.results34, go_sem, x0, x1, x2, x3, x4, x5, x6, x7, x8, x9, xf, hz, meVal, meCells, rZ]) rfl ?_
    rw [HE2.out]
    refine ⟨[], none, 0, rfl, rfl, ⟨fun q hq => by obtain rfl := List.mem_singleton.1 hq; exact World.ownsRow_nil _ _ _ _, List.pairwise_singleton _ _⟩, ?_⟩
    have k0 := HBw.out
    repeat (first | (with_reducible exact k0) | ((with_reducible refine Below.setCell ?_ ?_ _); rotate_left; (simp <;> omega)))
  go_wp2_with fail
  refine (H2.out _).mono ?_
  rintro e w2 ⟨rfl, rfl⟩
  cases b2
  case false =>
    have HE2 : Hid (Y = ((rZ, []), 2)) := HE1.out.trans (if_pos (by simp))
    clear c0 c1 c2 c3 c4 c5 c6 c7 c8 c9 p0 p1 p2
    go_wp2
    refine bodyPost_ret (v := .tuple #[meVal rZ none 0 0, .int .i64 2]) (by simp [results, Try.results34, go_sem, x0, x1, x2, x3, x4, x5, x6, x7, x8, x9, xf, hz, meVal, meCells, rZ]) rfl ?_
    rw [HE2.out]
    refine ⟨[], none, 0, rfl, rfl, ⟨fun q hq => by obtain rfl := List.mem_singleton.1 hq; exact World.ownsRow_nil _ _ _ _, List.pairwise_singleton _ _⟩, ?_⟩
    have k0 := HBw.out
    repeat (first | (with_reducible exact k0) | ((with_reducible refine Below.setCell ?_ ?_ _); rotate_left; (simp <;> omega)))
  go_wp2_with fail
  refine (H3.out _).mono ?_
  rintro e w2 ⟨rfl, rfl⟩
  cases b3
  case false =>
    have HE2 : Hid (Y = ((rZ, []), 2)) := HE1.out.trans (if_pos (by simp))
    clear c0 c1 c2 c3 c4 c5 c6 c7 c8 c9 p0 p1 p2
    go_wp2
    refine bodyPost_ret (v := .tuple #[meVal rZ none 0 0, .int .i64 2]) (by simp [results, Try.results34, go_sem, x0, x1, x2, x3, x4, x5, x6, x7, x8, x9, xf, hz, meVal, meCells, rZ]) rfl ?_
    rw [HE2.out]
    refine ⟨[], none, 0, rfl, rfl, ⟨fun q hq => by obtain rfl := List.mem_singleton.1 hq; exact World.ownsRow_nil _ _ _ _, List.pairwise_singleton _ _⟩, ?_⟩
    have k0 := HBw.out
    repeat (first | (with_reducible exact k0) | ((with_reducible refine Below.setCell ?_ ?_ _); rotate_left; (simp <;> omega)))
  have HE2 : Hid (Y = ((r, storeL (l.map Prod.fst) (stSl p d v b)), 0)) := HE1.out.trans (if_neg (by simp))
  obtain ⟨hmo, hpo⟩ := HOK.out (by simp)
  obtain ⟨_, ⟨hn0, hn1⟩, _⟩ := meOk_parts hmo
  rw [List.length_map] at hn0 hn1
  obtain ⟨_, ⟨pn, hpn, hpn1⟩, t, hB, ht0, ht⟩ := P.ok_parts hpo
  have HPL : Hid (0 ≤ p.player ∧ p.player ≤ 1) := ⟨by omega, by omega⟩
  have HPB : Hid (∀ z ∈ p.pits, 0 ≤ z ∧ z ≤ 96) := hB.bp ht
  have HQ := Lib.hid (l16Own_c w.heap.size 0 r l a c w1 ⟨c0, c1, c2, c3, c4, c5, c6, c7, c8⟩ c9 (HC.out _ HB.out).2.2.2.1 (by omega) HM.out)
  clear HE1 H0 HOK hmo hpo hpn hpn1 hB ht0 ht
  go_wp2_with fail
  refine HQ.out.mono ?_
  rintro e w3 ⟨m, a3, cn, hmf, rfl, hp3, hb3⟩
  have hml : m.length = l.length := by have := congrArg List.length hmf; simpa using this
  obtain ⟨g, hg, hg1, hg2⟩ := own_lt_n (hp3.all _ (List.mem_cons_self ..)) (by omega)
  subst hg
  have hbw3 := below_next HB.out hb3
  obtain ⟨_, _, hX3, _, _, hBw3, hz3⟩ := HC.out _ hbw3
  have hD3' : BoxP (w.heap.size + 1) (p.cells pa pc sa sc).toList w3 := (HF0.out.step hbw3).at 1 rfl
  have FX := ((((Fr.from hBw3).add _ _ _ (BoxP.stab _ _) hD3' (by omega)).add _ _ _ (BoxF.stab _ _) hX3 (by omega)).alloc #[.int .i64 r.pits, .int .i64 r.seeds, .bool r.stores, .bool r.skip, .bool r.relay, .bool r.feed, .bool r.again, .int .i64 r.capture, .int .i64 r.slam, .slice (some ⟨g, 0, none⟩) m.length cn] 52)
  obtain ⟨W1, hW1⟩ : ∃ W, W = w3.alloc (.cells #[.int .i64 r.pits, .int .i64 r.seeds, .bool r.stores, .bool r.skip, .bool r.relay, .bool r.feed, .bool r.again, .int .i64 r.capture, .int .i64 r.slam, .slice (some ⟨g, 0, none⟩) m.length cn] 52) := ⟨_, rfl⟩
  rw [← hW1] at FX
  have hp1 : Pcs W1 w1.heap.size (slRL.pcs (some ⟨g, 0, none⟩) cn m) := pcs_below hp3 (by rw [hW1]; exact below_alloc1 _ _)
  have hs1 : w3.heap.size < W1.heap.size := FX.le 0 rfl
  have HFX := Lib.hid FX
  have HKK : Hid (∀ W, Chg g (g + 1) W1 W → (W.cell? ⟨w3.heap.size, 0, none⟩ = some (.int .i64 r.pits) ∧ W.cell? ⟨w3.heap.size, 1, none⟩ = some (.int .i64 r.seeds) ∧ W.cell? ⟨w3.heap.size, 2, none⟩ = some (.bool r.stores) ∧ W.cell? ⟨w3.heap.size, 3, none⟩ = some (.bool r.skip) ∧ W.cell? ⟨w3.heap.size, 4, none⟩ = some (.bool r.relay) ∧ W.cell? ⟨w3.heap.size, 5, none⟩ = some (.bool r.feed) ∧ W.cell? ⟨w3.heap.size, 6, none⟩ = some (.bool r.again) ∧ W.cell? ⟨w3.heap.size, 7, none⟩ = some (.int .i64 r.capture) ∧ W.cell? ⟨w3.heap.size, 8, none⟩ = some (.int .i64 r.slam) ∧ W.cell? ⟨w3.heap.size, 9, none⟩ = some (.slice (some ⟨g, 0, none⟩) m.length cn)) ∧ BoxF (w.heap.size + 1 + 1) [.int .i64 0, .int .i64 0, .bool false, .bool false, .bool false, .bool false, .bool false, .int .i64 0, .int .i64 0, .slice none 0 0] W ∧ (W.cell? ⟨w.heap.size + 1, 0, none⟩ = some (.slice pa p.pits.length pc) ∧ W.cell? ⟨w.heap.size + 1, 1, none⟩ = some (.slice sa p.stores.length sc) ∧ W.cell? ⟨w.heap.size + 1, 2, none⟩ = some (.int .i64 p.player)) ∧ w.heap.size + 1 + 1 < W.heap.size ∧ w3.heap.size < W.heap.size ∧ Below w.heap.size w W) := fun W hW => by
    have hsz := hW.size
    have hpx : BoxP (w.heap.size + 1) (p.cells pa pc sa sc).toList W := BoxP.stab _ _ W1 W (HFX.out.at 2 rfl) (fun b h1 h2 => hW.block b (by omega) (by omega))
    exact ⟨me_box (BoxP.stab _ _ W1 W (HFX.out.at 0 rfl) (fun b h1 h2 => hW.block b (by omega) (by omega))), BoxF.stab _ _ W1 W (HFX.out.at 1 rfl) (fun b h1 h2 => hW.block b (by omega) (by omega)), ⟨hpx 0 _ rfl, hpx 1 _ rfl, hpx 2 _ rfl⟩, by omega, by omega, hW.below HFX.out.below (by omega)⟩
  obtain ⟨⟨o0, o1, o2, o3, o4, o5, o6, o7, o8, o9⟩, _, ⟨p0, p1, p2⟩, _, _, hBW⟩ := HKK.out W1 (Chg.refl _ _ _)
  have HBW1 := Lib.hid hBW
  have HP1 := Lib.hid hp1
  have HML := Lib.hid hml
  have HMF := Lib.hid hmf
  have HG : Hid (w.heap.size ≤ w1.heap.size ∧ g < w3.heap.size ∧ w1.heap.size ≤ g ∧ w3.heap.size < W1.heap.size ∧ w.heap.size + 1 + 1 < w1.heap.size) := ⟨by omega, hg2, hg1, hs1, hz⟩
  have HW1 := Lib.hid hW1
  clear hmf hml hp3 hp1 hb3 hbw3 hX3 hBw3 hD3' FX hW1 HFX hs1 hg1 hg2 c0 c1 c2 c3 c4 c5 c6 c7 c8 c9 x0 x1 x2 x3 x4 x5 x6 x7 x8 x9 xf hBW
  go_upto_region 7 with fail
  rw [← HW1.out]
  have FV := (Fr.start W1).alloc (Sl.cells (stSl p d v b) ⟨pa, pc⟩) 113
  have hcg0 : Chg g (g + 1) W1 (W1.alloc (.cells (Sl.cells (stSl p d v b) ⟨pa, pc⟩) 113)) := Chg.ofBelow FV.below
  have HQS := Lib.hid (l16Store_c w3.heap.size 0 W1.heap.size 0 m g cn w1.heap.size (stSl p d v b) ⟨pa, pc⟩ _ (me_at (HKK.out _ hcg0).1).2 (by have := HG.out; omega) (pcs_below HP1.out FV.below) (by have := HML.out; omega) (sl_box (FV.at 0 rfl)) (by have := HG.out; omega) (HPR.out.pits.below (HKK.out _ hcg0).2.2.2.2.2 (Nat.le_refl _)) h1 HPL.out HPB.out)
  have HCG0 := Lib.hid hcg0
  simp only [stSl, Sl.cells] at HQS HCG0
  clear FV hcg0
  go_wp2_with fail
  refine HQS.out.mono ?_
  rintro e w5 ⟨rfl, m', hm1, hm2, hm3⟩
  have hml' : m'.length = m.length := by have := congrArg List.length hm1; rw [storeL_len, List.length_map, List.length_map] at this; exact this
  have HM1 := Lib.hid hm1
  have HM2 := Lib.hid hm2
  have HML' := Lib.hid hml'
  have hcg : Chg g (g + 1) W1 w5 := HCG0.out.trans hm3
  obtain ⟨⟨o0, o1, o2, o3, o4, o5, o6, o7, o8, o9⟩, hbz, _, hz1, hz2, hbw⟩ := HKK.out w5 hcg
  obtain ⟨x0, x1, x2, x3, x4, x5, x6, x7, x8, x9⟩ := (⟨hbz.1 0 _ rfl, hbz.1 1 _ rfl, hbz.1 2 _ rfl, hbz.1 3 _ rfl, hbz.1 4 _ rfl, hbz.1 5 _ rfl, hbz.1 6 _ rfl, hbz.1 7 _ rfl, hbz.1 8 _ rfl, hbz.1 9 _ rfl⟩ : _ ∧ _ ∧ _ ∧ _ ∧ _ ∧ _ ∧ _ ∧ _ ∧ _ ∧ _)
  have xf := hbz.2
  have HBW := Lib.hid hbw
  clear hbz hbw hm1 hm2 hm3 hml' hcg HQS p0 p1 p2
  go_wp2
  refine bodyPost_ret (v := .tuple #[meVal r (some ⟨g, 0, none⟩) m.length cn, .int .i64 0]) (by simp [results, Try.results34, go_sem, x0, x1, x2, x3, x4, x5, x6, x7, x8, x9, xf, hz1, meVal, meCells]) rfl ?_
  rw [HE2.out]
  refine ⟨m', some ⟨g, 0, none⟩, cn, by rw [HM1.out, HMF.out]; rfl, by rw [HML'.out], ?_, ?_⟩
  · have k0 := HM2.out
    have := HG.out
    refine Pcs.le (base := w1.heap.size) ?_ HG.out.1
    repeat (first | (with_reducible exact k0) | ((with_reducible refine Pcs.setBelow ?_ ?_ _); rotate_left; omega))
  · have k0 := HBW.out
    repeat (first | (with_reducible exact k0) | ((with_reducible refine Below.setCell ?_ ?_ _); rotate_left; (simp <;> omega)))

end Go.Proofs.Ytbjgigdkbjabaaa
