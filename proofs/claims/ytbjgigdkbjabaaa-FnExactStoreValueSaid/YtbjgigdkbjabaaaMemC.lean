/- MemC: whether a slot is valid: the reference's function. The contract holds for every argument, under the premises that it states. -/
import Derived.Test.YtbjgigdkbjabaaaMemB
namespace Go.Proofs.Ytbjgigdkbjabaaa
set_option linter.unusedSimpArgs false
set_option linter.unusedVariables false
set_option linter.unnecessarySimpa false
open Go.RowKit Go.ChangeShapes Go.WideShapes Go.ChangeAt Go.Joins

set_option maxRecDepth 100000 in
set_option maxHeartbeats 8000000 in
theorem l16Slot_c (mb mo : Nat) (r : R) (l : List (Sl × SA)) (a : Option Addr) (c i : Nat) (w : World) (hr : R.At w mb mo r) (h9 : w.cell? ⟨mb, mo + 9, none⟩ = some (.slice a l.length c)) (h : SRows w a l) (hl : 1 ≤ l.length ∧ l.length ≤ 64) (hm : ∀ x ∈ l, x.1.pits.length ≤ 1048576) (hi : i < l.length) :
    Calls Try.prog 127 #[.pointer (some ⟨mb, mo, none⟩), .int .i64 i] w fun e w' => e = .returned (.bool (l[i].1.okAt r l.length i)) ∧ Below w.heap.size w w' := by
  obtain ⟨b, off, ha, hb, hcs⟩ := h.at (k := i) (x := l[i]) (by simp [hi])
  have hit := h.items l[i] (List.getElem_mem hi)
  have hxm := hm l[i] (List.getElem_mem hi)
  have hmb : mb < w.heap.size := World.block_lt_of_cell? w _ h9
  obtain ⟨n, hn⟩ : ∃ n, n = l.length := ⟨_, rfl⟩
  obtain ⟨y, hy⟩ : ∃ y, y = l[i] := ⟨_, rfl⟩
  rw [← hy] at hcs hit hxm ⊢
  rw [← hn] at h9 hl hi ⊢
  clear hy hn h hm
  obtain ⟨x, K⟩ := y
  dsimp only at hcs hit hxm ⊢
  subst ha
  have HC : Hid (∀ W, Below w.heap.size w W → (W.cell? ⟨b, off + i * 6, none⟩ = some (.bool x.used) ∧ W.cell? ⟨b, off + i * 6 + 1, none⟩ = some (.slice K.qa x.pits.length K.qc) ∧ W.cell? ⟨b, off + i * 6 + 2, none⟩ = some (.int .i64 x.player) ∧ W.cell? ⟨b, off + i * 6 + 3, none⟩ = some (.int .i64 x.depth) ∧ W.cell? ⟨b, off + i * 6 + 4, none⟩ = some (.int .i64 x.value) ∧ W.cell? ⟨b, off + i * 6 + 5, none⟩ = some (.int .i64 x.bound)) ∧ R.At W mb mo r ∧ W.cell? ⟨mb, mo + 9, none⟩ = some (.slice (some ⟨b, off, none⟩) n c) ∧ Ints W K.qa x.pits) := fun W hW => by
    have hc := (bcell hW).1
    exact ⟨⟨(hc _ _ hb).trans hcs.1, (hc _ _ hb).trans hcs.2.1, (hc _ _ hb).trans hcs.2.2.1, (hc _ _ hb).trans hcs.2.2.2.1, (hc _ _ hb).trans hcs.2.2.2.2.1, (hc _ _ hb).trans hcs.2.2.2.2.2⟩, hr.below hW hmb, (hc _ _ hmb).trans h9, hit.below hW (Nat.le_refl _)⟩
  obtain ⟨c0, c1, c2, c3, c4, c5⟩ := hcs
  obtain ⟨Y, hY⟩ : ∃ Y, Y = x.okAt r n i := ⟨_, rfl⟩
  rw [← hY]
  cases hu : x.used
  · have HE : Hid (Y = (decide (x.pits.length = 0) && (x.player == 0) && (x.depth == 0) && (x.value == 0) && (x.bound == 0))) := by unfold Hid; rw [hY, Sl.okAt, if_pos hu]
    rw [hu] at c0
    obtain ⟨x1, hx1⟩ : ∃ x1, x1 = x.pits.length := ⟨_, rfl⟩
    obtain ⟨x2, hx2⟩ : ∃ x2, x2 = x.player := ⟨_, rfl⟩
    obtain ⟨x3, hx3⟩ : ∃ x3, x3 = x.depth := ⟨_, rfl⟩
    obtain ⟨x4, hx4⟩ : ∃ x4, x4 = x.value := ⟨_, rfl⟩
    obtain ⟨x5, hx5⟩ : ∃ x5, x5 = x.bound := ⟨_, rfl⟩
    rw [← hx1] at c1 HE
    rw [← hx2] at c2 HE
    rw [← hx3] at c3 HE
    rw [← hx4] at c4 HE
    rw [← hx5] at c5 HE
    clear hY hu hx1 hx2 hx3 hx4 hx5 HC hr hit hxm hl
    go_enter Try.func127, Try.ntmps127
    go_wp2
    all_goals go_ret
    all_goals refine ⟨?_, Below.refl _ _⟩
    all_goals rw [HE.out]
    all_goals (simp [*]; try omega)
  have hiI : (i : Int) < (n : Int) := by omega
  have HE : Hid (Y = (x.key.ok r && valsOk x.depth x.value x.bound && (hashP x.pits x.player n == i))) := by unfold Hid; rw [hY, Sl.okAt, if_neg (by rw [hu]; simp)]
  rw [hu] at c0
  clear hY
  have HU := Lib.hid hu
  clear hu
  have HK := Lib.hid (l16Key_c b (off + i * 6) x K w c1 c2)
  go_enter Try.func127, Try.ntmps127
  go_wp2_with fail
  refine HK.out.mono ?_
  rintro e w2 ⟨sa, sc, rfl, hs, hb2⟩
  have F1 := (Fr.from hb2).alloc (x.key.cells K.qa K.qc sa sc) 30
  have hs1 := hs.below (below_alloc1 w2 (.cells (x.key.cells K.qa K.qc sa sc) 30)) (Nat.le_refl _)
  obtain ⟨d0, d1, d2⟩ := P.boxc (F1.at 0 rfl)
  obtain ⟨C, hr2, h92, hi2⟩ := HC.out _ F1.below
  have HCC := Lib.hid C
  obtain ⟨c0, c1, c2, c3, c4, c5⟩ := C
  have HQ := Lib.hid (l04Ok_c mb mo w2.heap.size 0 r x.key K.qa sa K.qc sc _ hr2 ⟨d0, d1, d2⟩ ⟨hi2, hs1⟩ (by show x.pits.length ≤ _; omega) (by show 2 ≤ _; omega))
  have HB := Lib.hid F1.below
  have HI := Lib.hid hi2
  obtain ⟨b0, hb0⟩ : ∃ b0, b0 = x.key.ok r := ⟨_, rfl⟩
  obtain ⟨b1, hb1⟩ : ∃ b1, b1 = inB x.depth 1 8 := ⟨_, rfl⟩
  obtain ⟨b2, hb2'⟩ : ∃ b2, b2 = inB x.value (-96) 96 := ⟨_, rfl⟩
  obtain ⟨b3, hb3⟩ : ∃ b3, b3 = inB x.bound 0 2 := ⟨_, rfl⟩
  rw [valsOk, ← hb0, ← hb1, ← hb2', ← hb3] at HE
  rw [← hb0] at HQ
  have H0 := Lib.hid hb0
  have H1 := Lib.hid (hb1 ▸ l00In_c x.depth 1 8)
  have H2 := Lib.hid (hb2' ▸ l16Value_c x.value)
  have H3 := Lib.hid (hb3 ▸ l00In_c x.bound 0 2)
  clear hb0 hb1 hb2' hb3 hs hs1 d0 d1 d2 F1 hb2 hr2 hi2 HK hr h9 HC
  go_wp2_with fail
  refine HQ.out.mono ?_
  rintro e w3 ⟨rfl, m, hw3⟩
  obtain ⟨W, hW⟩ : ∃ W, W = w2.alloc (.cells (x.key.cells K.qa K.qc sa sc) 30) := ⟨_, rfl⟩
  rw [← hW] at hw3 HB HI HCC c0 c1 c2 c3 c4 c5 h92
  clear hW HQ
  subst hw3
  have HBm : Hid (Below w.heap.size w (W.drewN m)) := HB.out.trans (below_draws _ _ _)
  have C9 := Lib.hid h92
  cases b0
  · go_wp2
    go_ret
    exact ⟨by rw [HE.out]; simp, HBm.out⟩
  go_wp2_with fail
  refine (H1.out _).mono ?_
  rintro e w4 ⟨rfl, rfl⟩
  cases b1
  · go_wp2
    go_ret
    exact ⟨by rw [HE.out]; simp, HBm.out⟩
  go_wp2_with fail
  refine (H2.out _).mono ?_
  rintro e w4 ⟨rfl, rfl⟩
  cases b2
  · go_wp2
    go_ret
    exact ⟨by rw [HE.out]; simp, HBm.out⟩
  go_wp2_with fail
  refine (H3.out _).mono ?_
  rintro e w4 ⟨rfl, rfl⟩
  cases b3
  · go_wp2
    go_ret
    exact ⟨by rw [HE.out]; simp, HBm.out⟩
  obtain ⟨hbd, ⟨pn, hpn, hpn1⟩, t, hB, ht0, ht⟩ := P.ok_parts H0.out.symm
  have hall : ∀ z ∈ x.pits, 0 ≤ z ∧ z ≤ 96 := hB.bp ht
  have HA := Lib.hid hall
  have hpl : 0 ≤ x.player ∧ x.player ≤ 1 := by have : x.player = (pn : Int) := hpn; omega
  have HPL := Lib.hid hpl
  have HEE : Hid (Y = (hashP x.pits x.player n == i)) := by have := HE.out; unfold Hid; simpa using this
  have HHC := Lib.hid (l16Hash_c x.pits x.player n K.qa K.qc ((W.drewN m).drew) (show Ints ((W.drewN m).drew) K.qa x.pits from HI.out) hxm HPL.out HA.out hl)
  clear hbd hpn hpn1 hB ht0 ht hall hpl HE
  go_wp2_with fail
  refine heldH (S := fun V => (V.cell? ⟨b, off + i * 6, none⟩ = some (.bool x.used) ∧ V.cell? ⟨b, off + i * 6 + 1, none⟩ = some (.slice K.qa x.pits.length K.qc) ∧ V.cell? ⟨b, off + i * 6 + 2, none⟩ = some (.int .i64 x.player) ∧ V.cell? ⟨b, off + i * 6 + 3, none⟩ = some (.int .i64 x.depth) ∧ V.cell? ⟨b, off + i * 6 + 4, none⟩ = some (.int .i64 x.value) ∧ V.cell? ⟨b, off + i * 6 + 5, none⟩ = some (.int .i64 x.bound)) ∧ V.cell? ⟨mb, mo + 9, none⟩ = some (.slice (some ⟨b, off, none⟩) n c)) (n := 17) (listed := #[false, false, false, false, false, false, false, false, false, false, false, false, false, false, false, false, false]) (by kernel_rfl) (by rfl) (by rfl) ?_ (fun hHeld => ?_)
  (focus ((try dsimp only); (first | done | ((exact ⟨HCC.out, C9.out⟩); done))))
  (refine takeH (i := 0) (v := ?_) (by decide +kernel) (by decide +kernel) (by kernel_rfl) (by rfl) (by exact fun _ _ _ h => h) (by rfl) ?_ (by assumption) ?_); rotate_left; (focus (intro w hSw; (try dsimp only at hSw); go_simp; (try with_reducible rfl); done)); (try simp only [Act.put, List.setIfInBounds_toArray, List.set_cons_zero, List.set_cons_succ])
  (refine takeH (i := 1) (v := ?_) (by decide +kernel) (by decide +kernel) (by kernel_rfl) (by rfl) (by exact fun _ _ _ h => h) (by rfl) ?_ (by assumption) ?_); rotate_left; (focus (intro w hSw; (try dsimp only at hSw); go_simp; (try with_reducible rfl); done)); (try simp only [Act.put, List.setIfInBounds_toArray, List.set_cons_zero, List.set_cons_succ])
  (refine takeH (i := 2) (v := ?_) (by decide +kernel) (by decide +kernel) (by kernel_rfl) (by rfl) (by exact fun _ _ _ h => h) (by rfl) ?_ (by assumption) ?_); rotate_left; (focus (intro w hSw; (try dsimp only at hSw); go_simp; (try with_reducible rfl); done)); (try simp only [Act.put, List.setIfInBounds_toArray, List.set_cons_zero, List.set_cons_succ])
  (refine takeH (i := 3) (v := ?_) (by decide +kernel) (by decide +kernel) (by kernel_rfl) (by rfl) (by exact fun _ _ _ h => h) (by rfl) ?_ (by assumption) ?_); rotate_left; (focus (intro w hSw; (try dsimp only at hSw); go_simp; (try with_reducible rfl); done)); (try simp only [Act.put, List.setIfInBounds_toArray, List.set_cons_zero, List.set_cons_succ])
  (refine takeH (i := 4) (v := ?_) (by decide +kernel) (by decide +kernel) (by kernel_rfl) (by rfl) (by exact fun _ _ _ h => h) (by rfl) ?_ (by assumption) ?_); rotate_left; (focus (intro w hSw; (try dsimp only at hSw); go_simp; (try with_reducible rfl); done)); (try simp only [Act.put, List.setIfInBounds_toArray, List.set_cons_zero, List.set_cons_succ])
  (refine takeH (i := 5) (v := ?_) (by decide +kernel) (by decide +kernel) (by kernel_rfl) (by rfl) (by exact fun _ _ _ h => h) (by rfl) ?_ (by assumption) ?_); rotate_left; (focus (intro w hSw; (try dsimp only at hSw); go_simp; (try with_reducible rfl); done)); (try simp only [Act.put, List.setIfInBounds_toArray, List.set_cons_zero, List.set_cons_succ])
  (refine takeH (i := 6) (v := ?_) (by decide +kernel) (by decide +kernel) (by kernel_rfl) (by rfl) (by exact fun _ _ _ h => h) (by rfl) ?_ (by assumption) ?_); rotate_left; (focus (intro w hSw; (try dsimp only at hSw); go_simp; (try with_reducible rfl); done)); (try simp only [Act.put, List.setIfInBounds_toArray, List.set_cons_zero, List.set_cons_succ])
  (refine takeH (i := 7) (v := ?_) (by decide +kernel) (by decide +kernel) (by kernel_rfl) (by rfl) (by exact fun _ _ _ h => h) (by rfl) ?_ (by assumption) ?_); rotate_left; (focus (intro w hSw; (try dsimp only at hSw); go_simp; (try with_reducible rfl); done)); (try simp only [Act.put, List.setIfInBounds_toArray, List.set_cons_zero, List.set_cons_succ])
  (refine takeH (i := 8) (v := ?_) (by decide +kernel) (by decide +kernel) (by kernel_rfl) (by rfl) (by exact fun _ _ _ h => h) (by rfl) ?_ (by assumption) ?_); rotate_left; (focus (intro w hSw; (try dsimp only at hSw); go_simp; (try with_reducible rfl); done)); (try simp only [Act.put, List.setIfInBounds_toArray, List.set_cons_zero, List.set_cons_succ])
  (refine takeH (i := 9) (v := ?_) (by decide +kernel) (by decide +kernel) (by kernel_rfl) (by rfl) (by exact fun _ _ _ h => h) (by rfl) ?_ (by assumption) ?_); rotate_left; (focus (intro w hSw; (try dsimp only at hSw); go_simp; (try with_reducible rfl); done)); (try simp only [Act.put, List.setIfInBounds_toArray, List.set_cons_zero, List.set_cons_succ])
  (refine takeH (i := 10) (v := ?_) (by decide +kernel) (by decide +kernel) (by kernel_rfl) (by rfl) (by exact fun _ _ _ h => h) (by rfl) ?_ (by assumption) ?_); rotate_left; (focus (intro w hSw; (try dsimp only at hSw); go_simp; (try with_reducible rfl); done)); (try simp only [Act.put, List.setIfInBounds_toArray, List.set_cons_zero, List.set_cons_succ])
  (refine takeH (i := 11) (v := ?_) (by decide +kernel) (by decide +kernel) (by kernel_rfl) (by rfl) (by exact fun _ _ _ h => h) (by rfl) ?_ (by assumption) ?_); rotate_left; (focus (intro w hSw; (try dsimp only at hSw); go_simp; (try with_reducible rfl); done)); (try simp only [Act.put, List.setIfInBounds_toArray, List.set_cons_zero, List.set_cons_succ])
  (refine takeH (i := 12) (v := ?_) (by decide +kernel) (by decide +kernel) (by kernel_rfl) (by rfl) (by exact fun _ _ _ h => h) (by rfl) ?_ (by assumption) ?_); rotate_left; (focus (intro w hSw; (try dsimp only at hSw); go_simp; (try with_reducible rfl); done)); (try simp only [Act.put, List.setIfInBounds_toArray, List.set_cons_zero, List.set_cons_succ])
  (refine takeH (i := 14) (v := ?_) (by decide +kernel) (by decide +kernel) (by kernel_rfl) (by rfl) (by exact fun _ _ _ h => h) (by rfl) ?_ (by assumption) ?_); rotate_left; (focus (intro w hSw; (try dsimp only at hSw); go_simp; (try with_reducible rfl); done)); (try simp only [Act.put, List.setIfInBounds_toArray, List.set_cons_zero, List.set_cons_succ])
  refine nextH (i := 13) (by decide +kernel) (by rfl) (by rfl) (fun K hK => ?_)
  go_simp
  (go_at_call 131; (refine HHC.out.mono ?_); (rintro e w7 ⟨rfl, rfl⟩))
  refine hK.out _ _ ?_ (fun hHeld' => ?_)
  (focus ((try dsimp only); (first | done | ((exact ⟨HCC.out, C9.out⟩); done))))
  clear hK K hHeld
  have hHeld := hHeld'
  clear hHeld'
  (try simp only [Act.put, List.setIfInBounds_toArray, List.set_cons_zero, List.set_cons_succ])
  (refine takeH (i := 15) (v := ?_) (by decide +kernel) (by decide +kernel) (by kernel_rfl) (by rfl) (by exact fun _ _ _ h => h) (by rfl) ?_ (by assumption) ?_); rotate_left; (focus (intro w hSw; (try dsimp only at hSw); go_simp; (try with_reducible rfl); done)); (try simp only [Act.put, List.setIfInBounds_toArray, List.set_cons_zero, List.set_cons_succ])
  (refine takeH (i := 16) (v := ?_) (by decide +kernel) (by decide +kernel) (by kernel_rfl) (by rfl) (by exact fun _ _ _ h => h) (by rfl) ?_ (by assumption) ?_); rotate_left; (focus (intro w hSw; (try dsimp only at hSw); go_simp; (try with_reducible rfl); done)); (try simp only [Act.put, List.setIfInBounds_toArray, List.set_cons_zero, List.set_cons_succ])
  refine wpAnyH_done (by decide +kernel) ?_ _
  go_wp2
  go_ret
  exact ⟨by rw [HEE.out]; rfl, HBm.out.drew⟩

set_option maxRecDepth 100000 in
set_option maxHeartbeats 8000000 in
theorem validSlot_c (r : R) (a : Option Addr) (n c i : Nat) (x : Sl) (ka : SA) (w : World) (hit : Ints w ka.qa x.pits) (hl : 1 ≤ n ∧ n ≤ 64) (hxm : x.pits.length ≤ 1048576) :
    Calls Try.prog 129 #[meVal r a n c, .int .i64 i, x.val ka] w fun e w' => e = .returned (.bool (x.okAt r n i)) ∧ Below w.heap.size w w' := by
  obtain ⟨used, pits, player, depth, value, bound⟩ := x
  dsimp only at hit hxm
  obtain ⟨x, hx⟩ : ∃ x : Sl, x = ⟨used, pits, player, depth, value, bound⟩ := ⟨_, rfl⟩
  have F0 := ((Fr.start w).alloc #[.int .i64 r.pits, .int .i64 r.seeds, .bool r.stores, .bool r.skip, .bool r.relay, .bool r.feed, .bool r.again, .int .i64 r.capture, .int .i64 r.slam, .slice a n c] 52).alloc (Sl.cells ⟨used, pits, player, depth, value, bound⟩ ka) 113
  simp only [World.size_alloc, Sl.cells] at F0
  obtain ⟨W0, hW0⟩ : ∃ W, W = (w.alloc (.cells #[.int .i64 r.pits, .int .i64 r.seeds, .bool r.stores, .bool r.skip, .bool r.relay, .bool r.feed, .bool r.again, .int .i64 r.capture, .int .i64 r.slam, .slice a n c] 52)).alloc (.cells #[.bool used, .slice ka.qa pits.length ka.qc, .int .i64 player, .int .i64 depth, .int .i64 value, .int .i64 bound] 113) := ⟨_, rfl⟩
  rw [← hW0] at F0
  have HC : Hid (∀ W, Below W0.heap.size W0 W → (W.cell? ⟨w.heap.size + 1, 0, none⟩ = some (.bool (Sl.mk used pits player depth value bound).used) ∧ W.cell? ⟨w.heap.size + 1, 1, none⟩ = some (.slice ka.qa (Sl.mk used pits player depth value bound).pits.length ka.qc) ∧ W.cell? ⟨w.heap.size + 1, 2, none⟩ = some (.int .i64 (Sl.mk used pits player depth value bound).player) ∧ W.cell? ⟨w.heap.size + 1, 3, none⟩ = some (.int .i64 (Sl.mk used pits player depth value bound).depth) ∧ W.cell? ⟨w.heap.size + 1, 4, none⟩ = some (.int .i64 (Sl.mk used pits player depth value bound).value) ∧ W.cell? ⟨w.heap.size + 1, 5, none⟩ = some (.int .i64 (Sl.mk used pits player depth value bound).bound)) ∧ (W.cell? ⟨w.heap.size, 0, none⟩ = some (.int .i64 r.pits) ∧ W.cell? ⟨w.heap.size, 1, none⟩ = some (.int .i64 r.seeds) ∧ W.cell? ⟨w.heap.size, 2, none⟩ = some (.bool r.stores) ∧ W.cell? ⟨w.heap.size, 3, none⟩ = some (.bool r.skip) ∧ W.cell? ⟨w.heap.size, 4, none⟩ = some (.bool r.relay) ∧ W.cell? ⟨w.heap.size, 5, none⟩ = some (.bool r.feed) ∧ W.cell? ⟨w.heap.size, 6, none⟩ = some (.bool r.again) ∧ W.cell? ⟨w.heap.size, 7, none⟩ = some (.int .i64 r.capture) ∧ W.cell? ⟨w.heap.size, 8, none⟩ = some (.int .i64 r.slam) ∧ W.cell? ⟨w.heap.size, 9, none⟩ = some (.slice a n c)) ∧ Ints W ka.qa pits ∧ Below w.heap.size w W) := fun W hW => by
    have F := F0.step hW
    exact ⟨sl_box (F.at 0 rfl), me_box (F.at 1 rfl), hit.below F.below (Nat.le_refl _), F.below⟩
  simp only at HC
  obtain ⟨hS0, hM0, hI0, hB0⟩ := HC.out _ (Below.refl _ _)
  have HB0 := Lib.hid hB0
  have HI0 := Lib.hid hI0
  have HS0 := Lib.hid hS0
  have HM0 := Lib.hid hM0
  obtain ⟨c0, c1, c2, c3, c4, c5⟩ := hS0
  have HY : Hid (∀ z, z = Sl.okAt r n i ⟨used, pits, player, depth, value, bound⟩ → (used = false → z = (decide (pits.length = 0) && (player == 0) && (depth == 0) && (value == 0) && (bound == 0))) ∧ (used = true → z = (x.key.ok r && valsOk depth value bound && (hashP pits player n == i)))) := fun z hz => by
    subst hx hz
    constructor
    · rintro rfl; rfl
    · rintro rfl; rfl
  obtain ⟨Y, hY⟩ : ∃ Y, Y = Sl.okAt r n i ⟨used, pits, player, depth, value, bound⟩ := ⟨_, rfl⟩
  rw [← hY]
  have HW0 := Lib.hid hW0
  cases hu : used
  · have HE := Lib.hid ((HY.out _ hY).1 hu)
    clear HY hY
    subst hu
    obtain ⟨L, hL⟩ : ∃ L, L = pits.length := ⟨_, rfl⟩
    rw [← hL] at c1 HE HW0
    simp only [Sl.val, Sl.cells]
    rw [← hL]
    clear hL HC hI0 hB0 F0 hit hM0 hW0 hx hxm HS0
    go_enter Try.func129, Try.ntmps129
    go_upto_region 1 with fail
    rw [← HW0.out]
    go_wp2
    all_goals go_ret
    all_goals refine ⟨?_, HB0.out⟩
    all_goals rw [HE.out]
    all_goals (simp [*]; try omega)
  have HE := Lib.hid ((HY.out _ hY).2 hu)
  clear HY hY hW0
  subst hu
  obtain ⟨b0, hb0⟩ : ∃ b0, b0 = x.key.ok r := ⟨_, rfl⟩
  obtain ⟨b1, hb1⟩ : ∃ b1, b1 = valsOk depth value bound := ⟨_, rfl⟩
  rw [← hb0, ← hb1] at HE
  have H0 := Lib.hid hb0
  have H1 := Lib.hid (hb1 ▸ validContents_c depth value bound)
  clear hb0 hb1
  go_enter Try.func129, Try.ntmps129
  go_upto_region 3 with fail
  rw [← HW0.out]
  cases b0
  case false =>
    refine heldH (S := fun V => (V.cell? ⟨w.heap.size + 1, 0, none⟩ = some (.bool (Sl.mk true pits player depth value bound).used) ∧ V.cell? ⟨w.heap.size + 1, 1, none⟩ = some (.slice ka.qa (Sl.mk true pits player depth value bound).pits.length ka.qc) ∧ V.cell? ⟨w.heap.size + 1, 2, none⟩ = some (.int .i64 (Sl.mk true pits player depth value bound).player) ∧ V.cell? ⟨w.heap.size + 1, 3, none⟩ = some (.int .i64 (Sl.mk true pits player depth value bound).depth) ∧ V.cell? ⟨w.heap.size + 1, 4, none⟩ = some (.int .i64 (Sl.mk true pits player depth value bound).value) ∧ V.cell? ⟨w.heap.size + 1, 5, none⟩ = some (.int .i64 (Sl.mk true pits player depth value bound).bound)) ∧ (V.cell? ⟨w.heap.size, 0, none⟩ = some (.int .i64 r.pits) ∧ V.cell? ⟨w.heap.size, 1, none⟩ = some (.int .i64 r.seeds) ∧ V.cell? ⟨w.heap.size, 2, none⟩ = some (.bool r.stores) ∧ V.cell? ⟨w.heap.size, 3, none⟩ = some (.bool r.skip) ∧ V.cell? ⟨w.heap.size, 4, none⟩ = some (.bool r.relay) ∧ V.cell? ⟨w.heap.size, 5, none⟩ = some (.bool r.feed) ∧ V.cell? ⟨w.heap.size, 6, none⟩ = some (.bool r.again) ∧ V.cell? ⟨w.heap.size, 7, none⟩ = some (.int .i64 r.capture) ∧ V.cell? ⟨w.heap.size, 8, none⟩ = some (.int .i64 r.slam) ∧ V.cell? ⟨w.heap.size, 9, none⟩ = some (.slice a n c))) (n := 23) (listed := #[false, false, false, false, false, false, false, false, false, false, false, false, false, false, false, false, false, false, false, false, false, false, false]) (by kernel_rfl) (by rfl) (by rfl) ?_ (fun hHeld => ?_)
    (focus ((try dsimp only); (first | done | ((first | exact hk4 | exact hk3 | exact ⟨HS0.out, HM0.out⟩); done))))
    (refine takeH (i := 0) (v := ?_) (by decide +kernel) (by decide +kernel) (by kernel_rfl) (by rfl) (by exact fun _ _ _ h => h) (by rfl) ?_ (by assumption) ?_); rotate_left; (focus (intro w hSw; (try dsimp only at hSw); go_simp; (try with_reducible rfl); done)); (try simp only [Act.put, List.setIfInBounds_toArray, List.set_cons_zero, List.set_cons_succ])
    (refine takeH (i := 1) (v := ?_) (by decide +kernel) (by decide +kernel) (by kernel_rfl) (by rfl) (by exact fun _ _ _ h => h) (by rfl) ?_ (by assumption) ?_); rotate_left; (focus (intro w hSw; (try dsimp only at hSw); go_simp; (try with_reducible rfl); done)); (try simp only [Act.put, List.setIfInBounds_toArray, List.set_cons_zero, List.set_cons_succ])
    (refine takeH (i := 2) (v := ?_) (by decide +kernel) (by decide +kernel) (by kernel_rfl) (by rfl) (by exact fun _ _ _ h => h) (by rfl) ?_ (by assumption) ?_); rotate_left; (focus (intro w hSw; (try dsimp only at hSw); go_simp; (try with_reducible rfl); done)); (try simp only [Act.put, List.setIfInBounds_toArray, List.set_cons_zero, List.set_cons_succ])
    refine nextH (i := 3) (by decide +kernel) (by rfl) (by rfl) (fun K hK => ?_)
    (go_simp; go_at_call 133; (refine (position_c ⟨true, pits, player, depth, value, bound⟩ ka _).mono ?_); (rintro e w3 ⟨sa, sc, rfl, hs3, hb3⟩); (have HB3 := Lib.hid (below_next (Below.refl W0.heap.size W0).drew hb3)); (have hk3 := (⟨(HC.out _ HB3.out).1, (HC.out _ HB3.out).2.1⟩ : _ ∧ _)))
    refine hK.out _ _ ?_ (fun hHeld' => ?_)
    (focus ((try dsimp only); (first | done | ((first | exact hk4 | exact hk3 | exact ⟨HS0.out, HM0.out⟩); done))))
    clear hK K hHeld
    have hHeld := hHeld'
    clear hHeld'
    (try simp only [Act.put, List.setIfInBounds_toArray, List.set_cons_zero, List.set_cons_succ])
    refine nextH (i := 4) (by decide +kernel) (by rfl) (by rfl) (fun K hK => ?_)
    (go_simp; go_at_call 60; (have HVP := ValidPosition_c r (Sl.key ⟨true, pits, player, depth, value, bound⟩) ka.qa sa ka.qc sc w3 ⟨(HC.out _ HB3.out).2.2.1, hs3⟩ (by show pits.length ≤ _; omega) (by show 2 ≤ _; omega)); (have H0' := H0.out); rw [hx] at H0'; rw [← H0'] at HVP; clear H0'; (refine HVP.mono ?_); (rintro e w4 ⟨rfl, hb4⟩); (have HB4 := Lib.hid (below_next HB3.out hb4)); (have hk4 := (⟨(HC.out _ HB4.out).1, (HC.out _ HB4.out).2.1⟩ : _ ∧ _)))
    refine hK.out _ _ ?_ (fun hHeld' => ?_)
    (focus ((try dsimp only); (first | done | ((first | exact hk4 | exact hk3 | exact ⟨HS0.out, HM0.out⟩); done))))
    clear hK K hHeld
    have hHeld := hHeld'
    clear hHeld'
    (try simp only [Act.put, List.setIfInBounds_toArray, List.set_cons_zero, List.set_cons_succ])
    (refine takeH (i := 5) (v := ?_) (by decide +kernel) (by decide +kernel) (by kernel_rfl) (by rfl) (by exact fun _ _ _ h => h) (by rfl) ?_ (by assumption) ?_); rotate_left; (focus (intro w hSw; (try dsimp only at hSw); go_simp; (try with_reducible rfl); done)); (try simp only [Act.put, List.setIfInBounds_toArray, List.set_cons_zero, List.set_cons_succ])
    ((refine skipH (i := 6) (by decide +kernel) (by decide +kernel) (by kernel_rfl) (by rfl) (by exact fun _ _ _ h => h) (by rfl) (by assumption) ?_); (try simp only [Act.put, List.setIfInBounds_toArray, List.set_cons_zero, List.set_cons_succ]))
    ((refine skipH (i := 7) (by decide +kernel) (by decide +kernel) (by kernel_rfl) (by rfl) (by exact fun _ _ _ h => h) (by rfl) (by assumption) ?_); (try simp only [Act.put, List.setIfInBounds_toArray, List.set_cons_zero, List.set_cons_succ]))
    ((refine skipH (i := 8) (by decide +kernel) (by decide +kernel) (by kernel_rfl) (by rfl) (by exact fun _ _ _ h => h) (by rfl) (by assumption) ?_); (try simp only [Act.put, List.setIfInBounds_toArray, List.set_cons_zero, List.set_cons_succ]))
    ((refine skipH (i := 9) (by decide +kernel) (by decide +kernel) (by kernel_rfl) (by rfl) (by exact fun _ _ _ h => h) (by rfl) (by assumption) ?_); (try simp only [Act.put, List.setIfInBounds_toArray, List.set_cons_zero, List.set_cons_succ]))
    ((refine skipH (i := 10) (by decide +kernel) (by decide +kernel) (by kernel_rfl) (by rfl) (by exact fun _ _ _ h => h) (by rfl) (by assumption) ?_); (try simp only [Act.put, List.setIfInBounds_toArray, List.set_cons_zero, List.set_cons_succ]))
    ((refine skipH (i := 11) (by decide +kernel) (by decide +kernel) (by kernel_rfl) (by rfl) (by exact fun _ _ _ h => h) (by rfl) (by assumption) ?_); (try simp only [Act.put, List.setIfInBounds_toArray, List.set_cons_zero, List.set_cons_succ]))
    ((refine skipH (i := 12) (by decide +kernel) (by decide +kernel) (by kernel_rfl) (by rfl) (by exact fun _ _ _ h => h) (by rfl) (by assumption) ?_); (try simp only [Act.put, List.setIfInBounds_toArray, List.set_cons_zero, List.set_cons_succ]))
    (refine takeH (i := 13) (v := ?_) (by decide +kernel) (by decide +kernel) (by kernel_rfl) (by rfl) (by exact fun _ _ _ h => h) (by rfl) ?_ (by assumption) ?_); rotate_left; (focus (intro w hSw; (try dsimp only at hSw); go_simp; (try with_reducible rfl); done)); (try simp only [Act.put, List.setIfInBounds_toArray, List.set_cons_zero, List.set_cons_succ])
    (refine takeH (i := 14) (v := ?_) (by decide +kernel) (by decide +kernel) (by kernel_rfl) (by rfl) (by exact fun _ _ _ h => h) (by rfl) ?_ (by assumption) ?_); rotate_left; (focus (intro w hSw; (try dsimp only at hSw); go_simp; (try with_reducible rfl); done)); (try simp only [Act.put, List.setIfInBounds_toArray, List.set_cons_zero, List.set_cons_succ])
    ((refine skipH (i := 15) (by decide +kernel) (by decide +kernel) (by kernel_rfl) (by rfl) (by exact fun _ _ _ h => h) (by rfl) (by assumption) ?_); (try simp only [Act.put, List.setIfInBounds_toArray, List.set_cons_zero, List.set_cons_succ]))
    ((refine skipH (i := 16) (by decide +kernel) (by decide +kernel) (by kernel_rfl) (by rfl) (by exact fun _ _ _ h => h) (by rfl) (by assumption) ?_); (try simp only [Act.put, List.setIfInBounds_toArray, List.set_cons_zero, List.set_cons_succ]))
    ((refine skipH (i := 17) (by decide +kernel) (by decide +kernel) (by kernel_rfl) (by rfl) (by exact fun _ _ _ h => h) (by rfl) (by assumption) ?_); (try simp only [Act.put, List.setIfInBounds_toArray, List.set_cons_zero, List.set_cons_succ]))
    ((refine skipH (i := 18) (by decide +kernel) (by decide +kernel) (by kernel_rfl) (by rfl) (by exact fun _ _ _ h => h) (by rfl) (by assumption) ?_); (try simp only [Act.put, List.setIfInBounds_toArray, List.set_cons_zero, List.set_cons_succ]))
    ((refine skipH (i := 19) (by decide +kernel) (by decide +kernel) (by kernel_rfl) (by rfl) (by exact fun _ _ _ h => h) (by rfl) (by assumption) ?_); (try simp only [Act.put, List.setIfInBounds_toArray, List.set_cons_zero, List.set_cons_succ]))
    ((refine skipH (i := 20) (by decide +kernel) (by decide +kernel) (by kernel_rfl) (by rfl) (by exact fun _ _ _ h => h) (by rfl) (by assumption) ?_); (try simp only [Act.put, List.setIfInBounds_toArray, List.set_cons_zero, List.set_cons_succ]))
    (refine takeH (i := 21) (v := ?_) (by decide +kernel) (by decide +kernel) (by kernel_rfl) (by rfl) (by exact fun _ _ _ h => h) (by rfl) ?_ (by assumption) ?_); rotate_left; (focus (intro w hSw; (try dsimp only at hSw); go_simp; (try with_reducible rfl); done)); (try simp only [Act.put, List.setIfInBounds_toArray, List.set_cons_zero, List.set_cons_succ])
    (refine takeH (i := 22) (v := ?_) (by decide +kernel) (by decide +kernel) (by kernel_rfl) (by rfl) (by exact fun _ _ _ h => h) (by rfl) ?_ (by assumption) ?_); rotate_left; (focus (intro w hSw; (try dsimp only at hSw); go_simp; (try with_reducible rfl); done)); (try simp only [Act.put, List.setIfInBounds_toArray, List.set_cons_zero, List.set_cons_succ])
    refine wpAnyH_done (by decide +kernel) ?_ _
    clear hHeld
    go_wp2
    go_ret
    exact ⟨by rw [HE.out]; simp, (HC.out _ HB4.out).2.2.2⟩
  have HEE : Hid (Y = (b1 && (hashP pits player n == i))) := by have := HE.out; unfold Hid; simpa using this
  clear HE
  cases b1
  case false =>
    have HE2 : Hid (Y = false) := HEE.out
    refine heldH (S := fun V => (V.cell? ⟨w.heap.size + 1, 0, none⟩ = some (.bool (Sl.mk true pits player depth value bound).used) ∧ V.cell? ⟨w.heap.size + 1, 1, none⟩ = some (.slice ka.qa (Sl.mk true pits player depth value bound).pits.length ka.qc) ∧ V.cell? ⟨w.heap.size + 1, 2, none⟩ = some (.int .i64 (Sl.mk true pits player depth value bound).player) ∧ V.cell? ⟨w.heap.size + 1, 3, none⟩ = some (.int .i64 (Sl.mk true pits player depth value bound).depth) ∧ V.cell? ⟨w.heap.size + 1, 4, none⟩ = some (.int .i64 (Sl.mk true pits player depth value bound).value) ∧ V.cell? ⟨w.heap.size + 1, 5, none⟩ = some (.int .i64 (Sl.mk true pits player depth value bound).bound)) ∧ (V.cell? ⟨w.heap.size, 0, none⟩ = some (.int .i64 r.pits) ∧ V.cell? ⟨w.heap.size, 1, none⟩ = some (.int .i64 r.seeds) ∧ V.cell? ⟨w.heap.size, 2, none⟩ = some (.bool r.stores) ∧ V.cell? ⟨w.heap.size, 3, none⟩ = some (.bool r.skip) ∧ V.cell? ⟨w.heap.size, 4, none⟩ = some (.bool r.relay) ∧ V.cell? ⟨w.heap.size, 5, none⟩ = some (.bool r.feed) ∧ V.cell? ⟨w.heap.size, 6, none⟩ = some (.bool r.again) ∧ V.cell? ⟨w.heap.size, 7, none⟩ = some (.int .i64 r.capture) ∧ V.cell? ⟨w.heap.size, 8, none⟩ = some (.int .i64 r.slam) ∧ V.cell? ⟨w.heap.size, 9, none⟩ = some (.slice a n c))) (n := 23) (listed := #[false, false, false, false, false, false, false, false, false, false, false, false, false, false, false, false, false, false, false, false, false, false, false]) (by kernel_rfl) (by rfl) (by rfl) ?_ (fun hHeld => ?_)
    (focus ((try dsimp only); (first | done | ((first | exact hk4 | exact hk3 | exact ⟨HS0.out, HM0.out⟩); done))))
    (refine takeH (i := 0) (v := ?_) (by decide +kernel) (by decide +kernel) (by kernel_rfl) (by rfl) (by exact fun _ _ _ h => h) (by rfl) ?_ (by assumption) ?_); rotate_left; (focus (intro w hSw; (try dsimp only at hSw); go_simp; (try with_reducible rfl); done)); (try simp only [Act.put, List.setIfInBounds_toArray, List.set_cons_zero, List.set_cons_succ])
    (refine takeH (i := 1) (v := ?_) (by decide +kernel) (by decide +kernel) (by kernel_rfl) (by rfl) (by exact fun _ _ _ h => h) (by rfl) ?_ (by assumption) ?_); rotate_left; (focus (intro w hSw; (try dsimp only at hSw); go_simp; (try with_reducible rfl); done)); (try simp only [Act.put, List.setIfInBounds_toArray, List.set_cons_zero, List.set_cons_succ])
    (refine takeH (i := 2) (v := ?_) (by decide +kernel) (by decide +kernel) (by kernel_rfl) (by rfl) (by exact fun _ _ _ h => h) (by rfl) ?_ (by assumption) ?_); rotate_left; (focus (intro w hSw; (try dsimp only at hSw); go_simp; (try with_reducible rfl); done)); (try simp only [Act.put, List.setIfInBounds_toArray, List.set_cons_zero, List.set_cons_succ])
    refine nextH (i := 3) (by decide +kernel) (by rfl) (by rfl) (fun K hK => ?_)
    (go_simp; go_at_call 133; (refine (position_c ⟨true, pits, player, depth, value, bound⟩ ka _).mono ?_); (rintro e w3 ⟨sa, sc, rfl, hs3, hb3⟩); (have HB3 := Lib.hid (below_next (Below.refl W0.heap.size W0).drew hb3)); (have hk3 := (⟨(HC.out _ HB3.out).1, (HC.out _ HB3.out).2.1⟩ : _ ∧ _)))
    refine hK.out _ _ ?_ (fun hHeld' => ?_)
    (focus ((try dsimp only); (first | done | ((first | exact hk4 | exact hk3 | exact ⟨HS0.out, HM0.out⟩); done))))
    clear hK K hHeld
    have hHeld := hHeld'
    clear hHeld'
    (try simp only [Act.put, List.setIfInBounds_toArray, List.set_cons_zero, List.set_cons_succ])
    refine nextH (i := 4) (by decide +kernel) (by rfl) (by rfl) (fun K hK => ?_)
    (go_simp; go_at_call 60; (have HVP := ValidPosition_c r (Sl.key ⟨true, pits, player, depth, value, bound⟩) ka.qa sa ka.qc sc w3 ⟨(HC.out _ HB3.out).2.2.1, hs3⟩ (by show pits.length ≤ _; omega) (by show 2 ≤ _; omega)); (have H0' := H0.out); rw [hx] at H0'; rw [← H0'] at HVP; clear H0'; (refine HVP.mono ?_); (rintro e w4 ⟨rfl, hb4⟩); (have HB4 := Lib.hid (below_next HB3.out hb4)); (have hk4 := (⟨(HC.out _ HB4.out).1, (HC.out _ HB4.out).2.1⟩ : _ ∧ _)))
    refine hK.out _ _ ?_ (fun hHeld' => ?_)
    (focus ((try dsimp only); (first | done | ((first | exact hk4 | exact hk3 | exact ⟨HS0.out, HM0.out⟩); done))))
    clear hK K hHeld
    have hHeld := hHeld'
    clear hHeld'
    (try simp only [Act.put, List.setIfInBounds_toArray, List.set_cons_zero, List.set_cons_succ])
    (refine takeH (i := 5) (v := ?_) (by decide +kernel) (by decide +kernel) (by kernel_rfl) (by rfl) (by exact fun _ _ _ h => h) (by rfl) ?_ (by assumption) ?_); rotate_left; (focus (intro w hSw; (try dsimp only at hSw); go_simp; (try with_reducible rfl); done)); (try simp only [Act.put, List.setIfInBounds_toArray, List.set_cons_zero, List.set_cons_succ])
    (refine takeH (i := 6) (v := ?_) (by decide +kernel) (by decide +kernel) (by kernel_rfl) (by rfl) (by exact fun _ _ _ h => h) (by rfl) ?_ (by assumption) ?_); rotate_left; (focus (intro w hSw; (try dsimp only at hSw); go_simp; (try with_reducible rfl); done)); (try simp only [Act.put, List.setIfInBounds_toArray, List.set_cons_zero, List.set_cons_succ])
    (refine takeH (i := 7) (v := ?_) (by decide +kernel) (by decide +kernel) (by kernel_rfl) (by rfl) (by exact fun _ _ _ h => h) (by rfl) ?_ (by assumption) ?_); rotate_left; (focus (intro w hSw; (try dsimp only at hSw); go_simp; (try with_reducible rfl); done)); (try simp only [Act.put, List.setIfInBounds_toArray, List.set_cons_zero, List.set_cons_succ])
    (refine takeH (i := 8) (v := ?_) (by decide +kernel) (by decide +kernel) (by kernel_rfl) (by rfl) (by exact fun _ _ _ h => h) (by rfl) ?_ (by assumption) ?_); rotate_left; (focus (intro w hSw; (try dsimp only at hSw); go_simp; (try with_reducible rfl); done)); (try simp only [Act.put, List.setIfInBounds_toArray, List.set_cons_zero, List.set_cons_succ])
    (refine takeH (i := 9) (v := ?_) (by decide +kernel) (by decide +kernel) (by kernel_rfl) (by rfl) (by exact fun _ _ _ h => h) (by rfl) ?_ (by assumption) ?_); rotate_left; (focus (intro w hSw; (try dsimp only at hSw); go_simp; (try with_reducible rfl); done)); (try simp only [Act.put, List.setIfInBounds_toArray, List.set_cons_zero, List.set_cons_succ])
    (refine takeH (i := 10) (v := ?_) (by decide +kernel) (by decide +kernel) (by kernel_rfl) (by rfl) (by exact fun _ _ _ h => h) (by rfl) ?_ (by assumption) ?_); rotate_left; (focus (intro w hSw; (try dsimp only at hSw); go_simp; (try with_reducible rfl); done)); (try simp only [Act.put, List.setIfInBounds_toArray, List.set_cons_zero, List.set_cons_succ])
    (refine takeH (i := 11) (v := ?_) (by decide +kernel) (by decide +kernel) (by kernel_rfl) (by rfl) (by exact fun _ _ _ h => h) (by rfl) ?_ (by assumption) ?_); rotate_left; (focus (intro w hSw; (try dsimp only at hSw); go_simp; (try with_reducible rfl); done)); (try simp only [Act.put, List.setIfInBounds_toArray, List.set_cons_zero, List.set_cons_succ])
    refine nextH (i := 12) (by decide +kernel) (by rfl) (by rfl) (fun K hK => ?_)
    (go_simp; go_at_call 87; (refine (H1.out _).mono ?_); (rintro e w5 ⟨rfl, rfl⟩))
    refine hK.out _ _ ?_ (fun hHeld' => ?_)
    (focus ((try dsimp only); (first | done | ((first | exact hk4 | exact hk3 | exact ⟨HS0.out, HM0.out⟩); done))))
    clear hK K hHeld
    have hHeld := hHeld'
    clear hHeld'
    (try simp only [Act.put, List.setIfInBounds_toArray, List.set_cons_zero, List.set_cons_succ])
    (refine takeH (i := 13) (v := ?_) (by decide +kernel) (by decide +kernel) (by kernel_rfl) (by rfl) (by exact fun _ _ _ h => h) (by rfl) ?_ (by assumption) ?_); rotate_left; (focus (intro w hSw; (try dsimp only at hSw); go_simp; (try with_reducible rfl); done)); (try simp only [Act.put, List.setIfInBounds_toArray, List.set_cons_zero, List.set_cons_succ])
    (refine takeH (i := 14) (v := ?_) (by decide +kernel) (by decide +kernel) (by kernel_rfl) (by rfl) (by exact fun _ _ _ h => h) (by rfl) ?_ (by assumption) ?_); rotate_left; (focus (intro w hSw; (try dsimp only at hSw); go_simp; (try with_reducible rfl); done)); (try simp only [Act.put, List.setIfInBounds_toArray, List.set_cons_zero, List.set_cons_succ])
    ((refine skipH (i := 15) (by decide +kernel) (by decide +kernel) (by kernel_rfl) (by rfl) (by exact fun _ _ _ h => h) (by rfl) (by assumption) ?_); (try simp only [Act.put, List.setIfInBounds_toArray, List.set_cons_zero, List.set_cons_succ]))
    ((refine skipH (i := 16) (by decide +kernel) (by decide +kernel) (by kernel_rfl) (by rfl) (by exact fun _ _ _ h => h) (by rfl) (by assumption) ?_); (try simp only [Act.put, List.setIfInBounds_toArray, List.set_cons_zero, List.set_cons_succ]))
    ((refine skipH (i := 17) (by decide +kernel) (by decide +kernel) (by kernel_rfl) (by rfl) (by exact fun _ _ _ h => h) (by rfl) (by assumption) ?_); (try simp only [Act.put, List.setIfInBounds_toArray, List.set_cons_zero, List.set_cons_succ]))
    ((refine skipH (i := 18) (by decide +kernel) (by decide +kernel) (by kernel_rfl) (by rfl) (by exact fun _ _ _ h => h) (by rfl) (by assumption) ?_); (try simp only [Act.put, List.setIfInBounds_toArray, List.set_cons_zero, List.set_cons_succ]))
    ((refine skipH (i := 19) (by decide +kernel) (by decide +kernel) (by kernel_rfl) (by rfl) (by exact fun _ _ _ h => h) (by rfl) (by assumption) ?_); (try simp only [Act.put, List.setIfInBounds_toArray, List.set_cons_zero, List.set_cons_succ]))
    ((refine skipH (i := 20) (by decide +kernel) (by decide +kernel) (by kernel_rfl) (by rfl) (by exact fun _ _ _ h => h) (by rfl) (by assumption) ?_); (try simp only [Act.put, List.setIfInBounds_toArray, List.set_cons_zero, List.set_cons_succ]))
    (refine takeH (i := 21) (v := ?_) (by decide +kernel) (by decide +kernel) (by kernel_rfl) (by rfl) (by exact fun _ _ _ h => h) (by rfl) ?_ (by assumption) ?_); rotate_left; (focus (intro w hSw; (try dsimp only at hSw); go_simp; (try with_reducible rfl); done)); (try simp only [Act.put, List.setIfInBounds_toArray, List.set_cons_zero, List.set_cons_succ])
    (refine takeH (i := 22) (v := ?_) (by decide +kernel) (by decide +kernel) (by kernel_rfl) (by rfl) (by exact fun _ _ _ h => h) (by rfl) ?_ (by assumption) ?_); rotate_left; (focus (intro w hSw; (try dsimp only at hSw); go_simp; (try with_reducible rfl); done)); (try simp only [Act.put, List.setIfInBounds_toArray, List.set_cons_zero, List.set_cons_succ])
    refine wpAnyH_done (by decide +kernel) ?_ _
    clear hHeld
    go_wp2
    go_ret
    exact ⟨by rw [HE2.out]; rfl, (HC.out _ HB4.out).2.2.2⟩
  have HE2 : Hid (Y = (hashP pits player n == i)) := HEE.out
  have hP := H0.out
  rw [hx] at hP
  obtain ⟨hbd, ⟨pn, hpn, hpn1⟩, t, hB, ht0, ht⟩ := P.ok_parts hP.symm
  have hall : ∀ z ∈ pits, 0 ≤ z ∧ z ≤ 96 := hB.bp ht
  have HA := Lib.hid hall
  have hpl : 0 ≤ player ∧ player ≤ 1 := by have : player = (pn : Int) := hpn; omega
  have HPL := Lib.hid hpl
  clear hbd hpn hpn1 hB ht0 ht hall hpl hP HEE
  refine heldH (S := fun V => (V.cell? ⟨w.heap.size + 1, 0, none⟩ = some (.bool (Sl.mk true pits player depth value bound).used) ∧ V.cell? ⟨w.heap.size + 1, 1, none⟩ = some (.slice ka.qa (Sl.mk true pits player depth value bound).pits.length ka.qc) ∧ V.cell? ⟨w.heap.size + 1, 2, none⟩ = some (.int .i64 (Sl.mk true pits player depth value bound).player) ∧ V.cell? ⟨w.heap.size + 1, 3, none⟩ = some (.int .i64 (Sl.mk true pits player depth value bound).depth) ∧ V.cell? ⟨w.heap.size + 1, 4, none⟩ = some (.int .i64 (Sl.mk true pits player depth value bound).value) ∧ V.cell? ⟨w.heap.size + 1, 5, none⟩ = some (.int .i64 (Sl.mk true pits player depth value bound).bound)) ∧ (V.cell? ⟨w.heap.size, 0, none⟩ = some (.int .i64 r.pits) ∧ V.cell? ⟨w.heap.size, 1, none⟩ = some (.int .i64 r.seeds) ∧ V.cell? ⟨w.heap.size, 2, none⟩ = some (.bool r.stores) ∧ V.cell? ⟨w.heap.size, 3, none⟩ = some (.bool r.skip) ∧ V.cell? ⟨w.heap.size, 4, none⟩ = some (.bool r.relay) ∧ V.cell? ⟨w.heap.size, 5, none⟩ = some (.bool r.feed) ∧ V.cell? ⟨w.heap.size, 6, none⟩ = some (.bool r.again) ∧ V.cell? ⟨w.heap.size, 7, none⟩ = some (.int .i64 r.capture) ∧ V.cell? ⟨w.heap.size, 8, none⟩ = some (.int .i64 r.slam) ∧ V.cell? ⟨w.heap.size, 9, none⟩ = some (.slice a n c))) (n := 23) (listed := #[false, false, false, false, false, false, false, false, false, false, false, false, false, false, false, false, false, false, false, false, false, false, false]) (by kernel_rfl) (by rfl) (by rfl) ?_ (fun hHeld => ?_)
  (focus ((try dsimp only); (first | done | ((first | exact hk8 | exact hk7 | exact hk4 | exact hk3 | exact ⟨HS0.out, HM0.out⟩); done))))
  (refine takeH (i := 0) (v := ?_) (by decide +kernel) (by decide +kernel) (by kernel_rfl) (by rfl) (by exact fun _ _ _ h => h) (by rfl) ?_ (by assumption) ?_); rotate_left; (focus (intro w hSw; (try dsimp only at hSw); go_simp; (try with_reducible rfl); done)); (try simp only [Act.put, List.setIfInBounds_toArray, List.set_cons_zero, List.set_cons_succ])
  (refine takeH (i := 1) (v := ?_) (by decide +kernel) (by decide +kernel) (by kernel_rfl) (by rfl) (by exact fun _ _ _ h => h) (by rfl) ?_ (by assumption) ?_); rotate_left; (focus (intro w hSw; (try dsimp only at hSw); go_simp; (try with_reducible rfl); done)); (try simp only [Act.put, List.setIfInBounds_toArray, List.set_cons_zero, List.set_cons_succ])
  (refine takeH (i := 2) (v := ?_) (by decide +kernel) (by decide +kernel) (by kernel_rfl) (by rfl) (by exact fun _ _ _ h => h) (by rfl) ?_ (by assumption) ?_); rotate_left; (focus (intro w hSw; (try dsimp only at hSw); go_simp; (try with_reducible rfl); done)); (try simp only [Act.put, List.setIfInBounds_toArray, List.set_cons_zero, List.set_cons_succ])
  refine nextH (i := 3) (by decide +kernel) (by rfl) (by rfl) (fun K hK => ?_)
  (go_simp; go_at_call 133; (refine (position_c ⟨true, pits, player, depth, value, bound⟩ ka _).mono ?_); (rintro e w3 ⟨sa, sc, rfl, hs3, hb3⟩); (have HB3 := Lib.hid (below_next (Below.refl W0.heap.size W0).drew hb3)); (have hk3 := (⟨(HC.out _ HB3.out).1, (HC.out _ HB3.out).2.1⟩ : _ ∧ _)))
  refine hK.out _ _ ?_ (fun hHeld' => ?_)
  (focus ((try dsimp only); (first | done | ((first | exact hk8 | exact hk7 | exact hk4 | exact hk3 | exact ⟨HS0.out, HM0.out⟩); done))))
  clear hK K hHeld
  have hHeld := hHeld'
  clear hHeld'
  (try simp only [Act.put, List.setIfInBounds_toArray, List.set_cons_zero, List.set_cons_succ])
  refine nextH (i := 4) (by decide +kernel) (by rfl) (by rfl) (fun K hK => ?_)
  (go_simp; go_at_call 60; (have HVP := ValidPosition_c r (Sl.key ⟨true, pits, player, depth, value, bound⟩) ka.qa sa ka.qc sc w3 ⟨(HC.out _ HB3.out).2.2.1, hs3⟩ (by show pits.length ≤ _; omega) (by show 2 ≤ _; omega)); (have H0' := H0.out); rw [hx] at H0'; rw [← H0'] at HVP; clear H0'; (refine HVP.mono ?_); (rintro e w4 ⟨rfl, hb4⟩); (have HB4 := Lib.hid (below_next HB3.out hb4)); (have hk4 := (⟨(HC.out _ HB4.out).1, (HC.out _ HB4.out).2.1⟩ : _ ∧ _)))
  refine hK.out _ _ ?_ (fun hHeld' => ?_)
  (focus ((try dsimp only); (first | done | ((first | exact hk8 | exact hk7 | exact hk4 | exact hk3 | exact ⟨HS0.out, HM0.out⟩); done))))
  clear hK K hHeld
  have hHeld := hHeld'
  clear hHeld'
  (try simp only [Act.put, List.setIfInBounds_toArray, List.set_cons_zero, List.set_cons_succ])
  (refine takeH (i := 5) (v := ?_) (by decide +kernel) (by decide +kernel) (by kernel_rfl) (by rfl) (by exact fun _ _ _ h => h) (by rfl) ?_ (by assumption) ?_); rotate_left; (focus (intro w hSw; (try dsimp only at hSw); go_simp; (try with_reducible rfl); done)); (try simp only [Act.put, List.setIfInBounds_toArray, List.set_cons_zero, List.set_cons_succ])
  (refine takeH (i := 6) (v := ?_) (by decide +kernel) (by decide +kernel) (by kernel_rfl) (by rfl) (by exact fun _ _ _ h => h) (by rfl) ?_ (by assumption) ?_); rotate_left; (focus (intro w hSw; (try dsimp only at hSw); go_simp; (try with_reducible rfl); done)); (try simp only [Act.put, List.setIfInBounds_toArray, List.set_cons_zero, List.set_cons_succ])
  (refine takeH (i := 7) (v := ?_) (by decide +kernel) (by decide +kernel) (by kernel_rfl) (by rfl) (by exact fun _ _ _ h => h) (by rfl) ?_ (by assumption) ?_); rotate_left; (focus (intro w hSw; (try dsimp only at hSw); go_simp; (try with_reducible rfl); done)); (try simp only [Act.put, List.setIfInBounds_toArray, List.set_cons_zero, List.set_cons_succ])
  (refine takeH (i := 8) (v := ?_) (by decide +kernel) (by decide +kernel) (by kernel_rfl) (by rfl) (by exact fun _ _ _ h => h) (by rfl) ?_ (by assumption) ?_); rotate_left; (focus (intro w hSw; (try dsimp only at hSw); go_simp; (try with_reducible rfl); done)); (try simp only [Act.put, List.setIfInBounds_toArray, List.set_cons_zero, List.set_cons_succ])
  (refine takeH (i := 9) (v := ?_) (by decide +kernel) (by decide +kernel) (by kernel_rfl) (by rfl) (by exact fun _ _ _ h => h) (by rfl) ?_ (by assumption) ?_); rotate_left; (focus (intro w hSw; (try dsimp only at hSw); go_simp; (try with_reducible rfl); done)); (try simp only [Act.put, List.setIfInBounds_toArray, List.set_cons_zero, List.set_cons_succ])
  (refine takeH (i := 10) (v := ?_) (by decide +kernel) (by decide +kernel) (by kernel_rfl) (by rfl) (by exact fun _ _ _ h => h) (by rfl) ?_ (by assumption) ?_); rotate_left; (focus (intro w hSw; (try dsimp only at hSw); go_simp; (try with_reducible rfl); done)); (try simp only [Act.put, List.setIfInBounds_toArray, List.set_cons_zero, List.set_cons_succ])
  (refine takeH (i := 11) (v := ?_) (by decide +kernel) (by decide +kernel) (by kernel_rfl) (by rfl) (by exact fun _ _ _ h => h) (by rfl) ?_ (by assumption) ?_); rotate_left; (focus (intro w hSw; (try dsimp only at hSw); go_simp; (try with_reducible rfl); done)); (try simp only [Act.put, List.setIfInBounds_toArray, List.set_cons_zero, List.set_cons_succ])
  refine nextH (i := 12) (by decide +kernel) (by rfl) (by rfl) (fun K hK => ?_)
  (go_simp; go_at_call 87; (refine (H1.out _).mono ?_); (rintro e w5 ⟨rfl, rfl⟩))
  refine hK.out _ _ ?_ (fun hHeld' => ?_)
  (focus ((try dsimp only); (first | done | ((first | exact hk8 | exact hk7 | exact hk4 | exact hk3 | exact ⟨HS0.out, HM0.out⟩); done))))
  clear hK K hHeld
  have hHeld := hHeld'
  clear hHeld'
  (try simp only [Act.put, List.setIfInBounds_toArray, List.set_cons_zero, List.set_cons_succ])
  (refine takeH (i := 13) (v := ?_) (by decide +kernel) (by decide +kernel) (by kernel_rfl) (by rfl) (by exact fun _ _ _ h => h) (by rfl) ?_ (by assumption) ?_); rotate_left; (focus (intro w hSw; (try dsimp only at hSw); go_simp; (try with_reducible rfl); done)); (try simp only [Act.put, List.setIfInBounds_toArray, List.set_cons_zero, List.set_cons_succ])
  (refine takeH (i := 14) (v := ?_) (by decide +kernel) (by decide +kernel) (by kernel_rfl) (by rfl) (by exact fun _ _ _ h => h) (by rfl) ?_ (by assumption) ?_); rotate_left; (focus (intro w hSw; (try dsimp only at hSw); go_simp; (try with_reducible rfl); done)); (try simp only [Act.put, List.setIfInBounds_toArray, List.set_cons_zero, List.set_cons_succ])
  (refine takeH (i := 15) (v := ?_) (by decide +kernel) (by decide +kernel) (by kernel_rfl) (by rfl) (by exact fun _ _ _ h => h) (by rfl) ?_ (by assumption) ?_); rotate_left; (focus (intro w hSw; (try dsimp only at hSw); go_simp; (try with_reducible rfl); done)); (try simp only [Act.put, List.setIfInBounds_toArray, List.set_cons_zero, List.set_cons_succ])
  (refine takeH (i := 16) (v := ?_) (by decide +kernel) (by decide +kernel) (by kernel_rfl) (by rfl) (by exact fun _ _ _ h => h) (by rfl) ?_ (by assumption) ?_); rotate_left; (focus (intro w hSw; (try dsimp only at hSw); go_simp; (try with_reducible rfl); done)); (try simp only [Act.put, List.setIfInBounds_toArray, List.set_cons_zero, List.set_cons_succ])
  (refine takeH (i := 19) (v := ?_) (by decide +kernel) (by decide +kernel) (by kernel_rfl) (by rfl) (by exact fun _ _ _ h => h) (by rfl) ?_ (by assumption) ?_); rotate_left; (focus (intro w hSw; (try dsimp only at hSw); go_simp; (try with_reducible rfl); done)); (try simp only [Act.put, List.setIfInBounds_toArray, List.set_cons_zero, List.set_cons_succ])
  refine nextH (i := 17) (by decide +kernel) (by rfl) (by rfl) (fun K hK => ?_)
  (go_simp; go_at_call 133; (refine (position_c ⟨true, pits, player, depth, value, bound⟩ ka _).mono ?_); (rintro e w7 ⟨ta, tc, rfl, hs7, hb7⟩); (have HB7 := Lib.hid (below_next HB4.out hb7)); (have hk7 := (⟨(HC.out _ HB7.out).1, (HC.out _ HB7.out).2.1⟩ : _ ∧ _)))
  refine hK.out _ _ ?_ (fun hHeld' => ?_)
  (focus ((try dsimp only); (first | done | ((first | exact hk8 | exact hk7 | exact hk4 | exact hk3 | exact ⟨HS0.out, HM0.out⟩); done))))
  clear hK K hHeld
  have hHeld := hHeld'
  clear hHeld'
  (try simp only [Act.put, List.setIfInBounds_toArray, List.set_cons_zero, List.set_cons_succ])
  refine nextH (i := 18) (by decide +kernel) (by rfl) (by rfl) (fun K hK => ?_)
  (go_simp; go_at_call 132; (have HPP := place_c r a c n (Sl.key ⟨true, pits, player, depth, value, bound⟩) ka.qa ta ka.qc tc w7 (HC.out _ HB7.out).2.2.1 hxm HPL.out HA.out hl); (refine HPP.mono ?_); (rintro e w8 ⟨rfl, hb8⟩); (have HB8 := Lib.hid (below_next HB7.out hb8)); (have hk8 := (⟨(HC.out _ HB8.out).1, (HC.out _ HB8.out).2.1⟩ : _ ∧ _)))
  refine hK.out _ _ ?_ (fun hHeld' => ?_)
  (focus ((try dsimp only); (first | done | ((first | exact hk8 | exact hk7 | exact hk4 | exact hk3 | exact ⟨HS0.out, HM0.out⟩); done))))
  clear hK K hHeld
  have hHeld := hHeld'
  clear hHeld'
  (try simp only [Act.put, List.setIfInBounds_toArray, List.set_cons_zero, List.set_cons_succ])
  (refine takeH (i := 20) (v := ?_) (by decide +kernel) (by decide +kernel) (by kernel_rfl) (by rfl) (by exact fun _ _ _ h => h) (by rfl) ?_ (by assumption) ?_); rotate_left; (focus (intro w hSw; (try dsimp only at hSw); go_simp; (try with_reducible rfl); done)); (try simp only [Act.put, List.setIfInBounds_toArray, List.set_cons_zero, List.set_cons_succ])
  (refine takeH (i := 21) (v := ?_) (by decide +kernel) (by decide +kernel) (by kernel_rfl) (by rfl) (by exact fun _ _ _ h => h) (by rfl) ?_ (by assumption) ?_); rotate_left; (focus (intro w hSw; (try dsimp only at hSw); go_simp; (try with_reducible rfl); done)); (try simp only [Act.put, List.setIfInBounds_toArray, List.set_cons_zero, List.set_cons_succ])
  (refine takeH (i := 22) (v := ?_) (by decide +kernel) (by decide +kernel) (by kernel_rfl) (by rfl) (by exact fun _ _ _ h => h) (by rfl) ?_ (by assumption) ?_); rotate_left; (focus (intro w hSw; (try dsimp only at hSw); go_simp; (try with_reducible rfl); done)); (try simp only [Act.put, List.setIfInBounds_toArray, List.set_cons_zero, List.set_cons_succ])
  refine wpAnyH_done (by decide +kernel) ?_ _
  clear hHeld
  go_wp2
  go_ret
  exact ⟨by rw [HE2.out]; rfl, (HC.out _ HB8.out).2.2.2⟩

end Go.Proofs.Ytbjgigdkbjabaaa
