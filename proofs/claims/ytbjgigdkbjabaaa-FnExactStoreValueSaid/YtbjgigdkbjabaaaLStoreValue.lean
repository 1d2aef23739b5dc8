/- The law FnExactStoreValue returns true for every argument, and every argument reads afterwards as before. No conditions. -/
import Derived.Test.YtbjgigdkbjabaaaMemL
import Derived.Test.YtbjgigdkbjabaaaMemI
import Derived.Deep.CutRange
namespace Go.Proofs.Ytbjgigdkbjabaaa.lStoreValue
set_option linter.unusedSimpArgs false
set_option linter.unusedVariables false
set_option linter.unnecessarySimpa false
open Go.RowKit Go.ChangeShapes Go.WideShapes Go.ChangeAt Go.Joins
open Go.ChangeMaps (open_string)

set_option maxRecDepth 100000 in
set_option maxHeartbeats 64000000 in
theorem walk (r0 : R) (l0 : List (Sl × SA)) (a0 : Option Addr) (cp0 : Nat) (p1 : P) (pa1 sa1 : Option Addr) (pc1 sc1 : Nat) (d : Int) (v : Int) (b : Int) (w : World) (h0 : SRows w a0 l0) (hl0 : l0.length ≤ maxLen) (hm0 : ∀ x ∈ l0, x.1.pits.length ≤ maxLen) (h1 : PRow w p1 pa1 sa1) (hl1 : p1.pits.length ≤ maxLen) (hm1 : p1.stores.length ≤ maxLen) (y : (R × List Sl) × Int)
    (hy : (∀ x ∈ l0, x.1.pits.length ≤ 1048576) → p1.pits.length ≤ 1048576 → Few y.1.2)
    (hs : ∀ (m0 : List (Sl × SA)) (b0 : Option Addr) (d0 : Nat) (b1 t1 : Option Addr) (d1 u1 : Nat) (w : World), SRows w b0 m0 → m0.length ≤ 1048576 → (∀ x ∈ m0, x.1.pits.length ≤ 1048576) → m0.map Prod.fst = l0.map Prod.fst → PRow w p1 b1 t1 → p1.pits.length ≤ 1048576 → p1.stores.length ≤ 1048576 → Calls Try.prog 34 #[meVal r0 b0 m0.length d0, p1.val b1 d1 t1 u1, .int .i64 d, .int .i64 v, .int .i64 b] w (MRes2 w y))
    (hi : ∀ (m0 : List (Sl × SA)) (b0 : Option Addr) (d0 : Nat) (b1 t1 : Option Addr) (d1 u1 : Nat) (w : World), SRows w b0 m0 → m0.length ≤ 1048576 → (∀ x ∈ m0, x.1.pits.length ≤ 1048576) → m0.map Prod.fst = l0.map Prod.fst → PRow w p1 b1 t1 → p1.pits.length ≤ 1048576 → p1.stores.length ≤ 1048576 → Calls Try.prog 35 #[meVal r0 b0 m0.length d0, p1.val b1 d1 t1 u1, .int .i64 d, .int .i64 v, .int .i64 b] w (MRes2 w y)) :
    Calls Try.prog 7 #[meVal r0 a0 l0.length cp0, p1.val pa1 pc1 sa1 sc1, .int .i64 d, .int .i64 v, .int .i64 b] w fun e w' => e = .returned (.bool true) ∧ Below w.heap.size w w' := by
  have HS := Lib.hid hs
  have HI := Lib.hid hi
  have HY := Lib.hid hy
  have HH0 := Lib.hid h0
  have HM0 := Lib.hid hm0
  have HH1 := Lib.hid h1
  have HM1 := Lib.hid hm1
  clear hs hi hy h0 hm0 h1
  have F0 := ((Fr.start w).alloc #[.int .i64 r0.pits, .int .i64 r0.seeds, .bool r0.stores, .bool r0.skip, .bool r0.relay, .bool r0.feed, .bool r0.again, .int .i64 r0.capture, .int .i64 r0.slam, .slice a0 l0.length cp0] 48).alloc #[.slice pa1 p1.pits.length pc1, .slice sa1 p1.stores.length sc1, .int .i64 p1.player] 26
  simp only [World.size_alloc] at F0
  obtain ⟨W0, hW⟩ : ∃ W, W = (World.alloc (World.alloc w (.cells #[.int .i64 r0.pits, .int .i64 r0.seeds, .bool r0.stores, .bool r0.skip, .bool r0.relay, .bool r0.feed, .bool r0.again, .int .i64 r0.capture, .int .i64 r0.slam, .slice a0 l0.length cp0] 48)) (.cells #[.slice pa1 p1.pits.length pc1, .slice sa1 p1.stores.length sc1, .int .i64 p1.player] 26)) := ⟨_, rfl⟩
  rw [← hW] at F0
  have HW := Lib.hid hW
  clear hW
  have s_W0 : w.heap.size + 1 + 1 ≤ W0.heap.size := F0.le 0 rfl
  obtain ⟨yr, yc⟩ := y
  obtain ⟨yr, yx⟩ := yr
  simp only [meVal, meCells, P.val, P.cells]
  go_enter Try.func7, Try.ntmps7
  go_upto_region 2 with fail
  rw [← HW.out]
  clear HW
  obtain ⟨c0, c1, c2, c3, c4, c5, c6, c7, c8, c9⟩ := me_box (F0.at 1 rfl)
  go_wp2_with fail
  refine (szMemory_c r0 l0 a0 cp0 1048576 W0 (HH0.out.below F0.below (Nat.le_refl _)) (by omega) (by omega) hl0 HM0.out).mono ?_
  rintro e w1 ⟨v0, rfl, hv0, hq, hb⟩
  have HQ := Lib.hid hq
  clear hq c0 c1 c2 c3 c4 c5 c6 c7 c8 c9
  have F_w1 := F0.step hb
  have s_w1 : W0.heap.size ≤ w1.heap.size := hb.size
  clear hb F0
  by_cases hz : v0 < 0
  · go_wp2
    go_ret
    exact ⟨rfl, F_w1.below⟩
  obtain ⟨l1_0, l2, l3⟩ := HQ.out (by omega)
  have L2_0 := Lib.hid l2
  have hsm0 : 0 ≤ mkSum szSl l0 ∧ mkSum szSl l0 ≤ 6291456 := by
    have h1 := mkSum_pl l0
    have h2 := plS_bd l0 l2
    omega
  clear l2 l3 HQ
  obtain ⟨c0, c1, c2⟩ := (⟨F_w1.at 0 rfl 0 _ rfl, F_w1.at 0 rfl 1 _ rfl, F_w1.at 0 rfl 2 _ rfl⟩ : _ ∧ _ ∧ _)
  go_upto_region 5 with fail
  go_wp2_with fail
  refine (szPosition_c p1 pa1 sa1 pc1 sc1 v0 w1 (by omega) (by omega) hl1 hm1).mono ?_
  rintro e w2 ⟨rfl, hb⟩
  clear c0 c1 c2
  have F_w2 := F_w1.step hb
  have s_w2 : w1.heap.size ≤ w2.heap.size := hb.size
  clear hb F_w1
  obtain ⟨v1, hv1⟩ : ∃ v, v = szP v0 p1 := ⟨_, rfl⟩
  have HVV1 := Lib.hid hv1
  rw [← hv1]
  clear hv1
  by_cases hz : v1 < 0
  · go_wp2
    go_ret
    exact ⟨rfl, F_w2.below⟩
  obtain ⟨l1_1, l2_1, u0, u1⟩ := szP_lenM (by rw [← HVV1.out]; exact hz) (by omega) (by omega)
  rw [← HVV1.out] at u0 u1
  have hyf := HY.out L2_0.out l1_1
  have HF := Lib.hid hyf
  clear hyf HY
  have mp1 : p1.pits.length ≤ maxLen ∧ p1.stores.length ≤ maxLen := ⟨by unfold maxLen; omega, by unfold maxLen; omega⟩
  have hdp1 : decide (p1 = p1) = true := by simp
  obtain ⟨LS, hLS, FL⟩ := Fr.listM F_w2
  have HLS := Lib.hid hLS
  have HFL := Lib.hid FL
  have HSKB : Hid (∀ V, Below w2.heap.size w2 V → (V.cell? ⟨w.heap.size, 0, none⟩ = some (.int .i64 r0.pits) ∧ V.cell? ⟨w.heap.size, 1, none⟩ = some (.int .i64 r0.seeds) ∧ V.cell? ⟨w.heap.size, 2, none⟩ = some (.bool r0.stores) ∧ V.cell? ⟨w.heap.size, 3, none⟩ = some (.bool r0.skip) ∧ V.cell? ⟨w.heap.size, 4, none⟩ = some (.bool r0.relay) ∧ V.cell? ⟨w.heap.size, 5, none⟩ = some (.bool r0.feed) ∧ V.cell? ⟨w.heap.size, 6, none⟩ = some (.bool r0.again) ∧ V.cell? ⟨w.heap.size, 7, none⟩ = some (.int .i64 r0.capture) ∧ V.cell? ⟨w.heap.size, 8, none⟩ = some (.int .i64 r0.slam) ∧ V.cell? ⟨w.heap.size, 9, none⟩ = some (.slice a0 l0.length cp0)) ∧ (V.cell? ⟨w.heap.size + 1, 0, none⟩ = some (.slice pa1 p1.pits.length pc1) ∧ V.cell? ⟨w.heap.size + 1, 1, none⟩ = some (.slice sa1 p1.stores.length sc1) ∧ V.cell? ⟨w.heap.size + 1, 2, none⟩ = some (.int .i64 p1.player))) := fun V hV => ⟨me_box ((F_w2.step hV).at 1 rfl), ⟨(F_w2.step hV).at 0 rfl 0 _ rfl, (F_w2.step hV).at 0 rfl 1 _ rfl, (F_w2.step hV).at 0 rfl 2 _ rfl⟩⟩
  have HFB := Lib.hid F_w2.below
  have hws_w := HFB.out.size
  clear hLS FL F_w2
  go_upto_region 8 with fail
  go_cut [12, 13] from 33 to 43 (fun sb sc wx => ∃ (nb0 : Nat) (m0 : List (Sl × SA)) (a0 : Option Addr) (k0 : Nat) (lo0 hi0 : Nat), sb = .pointer (some ⟨nb0, 0, none⟩) ∧ sc = .int .i64 yc ∧ m0.map Prod.fst = yx ∧ w2.heap.size ≤ nb0 ∧ w2.heap.size ≤ lo0 ∧ Fr w wx (⟨nb0, nb0 + 1, BoxP nb0 [.int .i64 yr.pits, .int .i64 yr.seeds, .bool yr.stores, .bool yr.skip, .bool yr.relay, .bool yr.feed, .bool yr.again, .int .i64 yr.capture, .int .i64 yr.slam, .slice a0 m0.length k0]⟩ :: ⟨lo0, hi0, PcsP lo0 hi0 (slRL.pcs a0 k0 m0)⟩ :: LS))
  case first =>
    refine heldH (S := fun V => (V.cell? ⟨w.heap.size, 0, none⟩ = some (.int .i64 r0.pits) ∧ V.cell? ⟨w.heap.size, 1, none⟩ = some (.int .i64 r0.seeds) ∧ V.cell? ⟨w.heap.size, 2, none⟩ = some (.bool r0.stores) ∧ V.cell? ⟨w.heap.size, 3, none⟩ = some (.bool r0.skip) ∧ V.cell? ⟨w.heap.size, 4, none⟩ = some (.bool r0.relay) ∧ V.cell? ⟨w.heap.size, 5, none⟩ = some (.bool r0.feed) ∧ V.cell? ⟨w.heap.size, 6, none⟩ = some (.bool r0.again) ∧ V.cell? ⟨w.heap.size, 7, none⟩ = some (.int .i64 r0.capture) ∧ V.cell? ⟨w.heap.size, 8, none⟩ = some (.int .i64 r0.slam) ∧ V.cell? ⟨w.heap.size, 9, none⟩ = some (.slice a0 l0.length cp0)) ∧ (V.cell? ⟨w.heap.size + 1, 0, none⟩ = some (.slice pa1 p1.pits.length pc1) ∧ V.cell? ⟨w.heap.size + 1, 1, none⟩ = some (.slice sa1 p1.stores.length sc1) ∧ V.cell? ⟨w.heap.size + 1, 2, none⟩ = some (.int .i64 p1.player))) (n := 14) (listed := #[false, false, false, false, false, false, false, false, false, false, false, false, false, false]) (by kernel_rfl) (by rfl) (by rfl) ?_ (fun hHeld => ?_)
    (focus ((try dsimp only); (first | done | (((refine HSKB.out _ ?_; first | (with_reducible exact G3.below) | (with_reducible exact G3.below.alloc G3.below.size _) | (with_reducible exact G2.below) | (with_reducible exact G2.below.alloc G2.below.size _) | (with_reducible exact G1.below) | (with_reducible exact G1.below.alloc G1.below.size _) | (with_reducible exact (Fr.start w2).drew.below) | (with_reducible exact ((Fr.start w2).allocF _ _).drew.below) | (with_reducible exact (Fr.start w2).below) | (repeat (first | (with_reducible exact G3.below) | ((with_reducible refine Below.setCell ?_ ?_ _); rotate_left; (simp <;> omega)))))); done))))
    (refine takeH (i := 0) (v := ?_) (by decide +kernel) (by decide +kernel) (by kernel_rfl) (by rfl) (by exact fun _ _ _ h => h) (by rfl) ?_ (by assumption) ?_); rotate_left; (focus (intro w hSw; (try dsimp only at hSw); go_simp; (try with_reducible rfl); done)); (try simp only [Act.put, List.setIfInBounds_toArray, List.set_cons_zero, List.set_cons_succ])
    (refine takeH (i := 2) (v := ?_) (by decide +kernel) (by decide +kernel) (by kernel_rfl) (by rfl) (by exact fun _ _ _ h => h) (by rfl) ?_ (by assumption) ?_); rotate_left; (focus (intro w hSw; (try dsimp only at hSw); go_simp; (try with_reducible rfl); done)); (try simp only [Act.put, List.setIfInBounds_toArray, List.set_cons_zero, List.set_cons_succ])
    (refine takeH (i := 4) (v := ?_) (by decide +kernel) (by decide +kernel) (by kernel_rfl) (by rfl) (by exact fun _ _ _ h => h) (by rfl) ?_ (by assumption) ?_); rotate_left; (focus (intro w hSw; (try dsimp only at hSw); go_simp; (try with_reducible rfl); done)); (try simp only [Act.put, List.setIfInBounds_toArray, List.set_cons_zero, List.set_cons_succ])
    (refine takeH (i := 5) (v := ?_) (by decide +kernel) (by decide +kernel) (by kernel_rfl) (by rfl) (by exact fun _ _ _ h => h) (by rfl) ?_ (by assumption) ?_); rotate_left; (focus (intro w hSw; (try dsimp only at hSw); go_simp; (try with_reducible rfl); done)); (try simp only [Act.put, List.setIfInBounds_toArray, List.set_cons_zero, List.set_cons_succ])
    (refine takeH (i := 6) (v := ?_) (by decide +kernel) (by decide +kernel) (by kernel_rfl) (by rfl) (by exact fun _ _ _ h => h) (by rfl) ?_ (by assumption) ?_); rotate_left; (focus (intro w hSw; (try dsimp only at hSw); go_simp; (try with_reducible rfl); done)); (try simp only [Act.put, List.setIfInBounds_toArray, List.set_cons_zero, List.set_cons_succ])
    refine bothH (i := 1) (j := 11) (by decide +kernel) (by rfl) (by rfl) (by rfl) (by rfl) (fun K hK => ?_) (fun K hK => ?_)
    (go_simp; go_at_call 27; (first | (refine (toMemory_c r0 l0 a0 cp0 _ (HH0.out.below (HFB.out.trans (Below.mono ((Fr.start w2).drew.below) HFB.out.size)) (Nat.le_refl _)) l1_0 L2_0.out).mono ?_) | (refine (toMemory_c r0 l0 a0 cp0 _ (HH0.out.below (HFB.out.trans (Below.mono (((Fr.start w2).allocF _ _).drew.below) HFB.out.size)) (Nat.le_refl _)) l1_0 L2_0.out).mono ?_)); (rintro e u1 ⟨m0, b0, d0, he0, rfl, hp0, hbk1⟩); (first | (have G1 := (Fr.start w2).drew.step hbk1) | (have G1 := ((Fr.start w2).allocF #[.int .i64 0, .int .i64 0, .bool false, .bool false, .bool false, .bool false, .bool false, .int .i64 0, .int .i64 0, .slice none 0 0] 52).drew.step hbk1)); (have P1 := G1.pcs hp0); (have z1 := hbk1.size); (try simp only [World.size_alloc, World.size_drew] at z1))
    refine hK.out _ _ ?_ (fun hHeld' => ?_)
    (focus ((try dsimp only); (first | done | (((refine HSKB.out _ ?_; first | (with_reducible exact G3.below) | (with_reducible exact G3.below.alloc G3.below.size _) | (with_reducible exact G2.below) | (with_reducible exact G2.below.alloc G2.below.size _) | (with_reducible exact G1.below) | (with_reducible exact G1.below.alloc G1.below.size _) | (with_reducible exact (Fr.start w2).drew.below) | (with_reducible exact ((Fr.start w2).allocF _ _).drew.below) | (with_reducible exact (Fr.start w2).below) | (repeat (first | (with_reducible exact G3.below) | ((with_reducible refine Below.setCell ?_ ?_ _); rotate_left; (simp <;> omega)))))); done))))
    clear hK K hHeld
    have hHeld := hHeld'
    clear hHeld'
    (try simp only [Act.put, List.setIfInBounds_toArray, List.set_cons_zero, List.set_cons_succ])
    refine bothH (i := 3) (j := 11) (by decide +kernel) (by rfl) (by rfl) (by rfl) (by rfl) (fun K hK => ?_) (fun K hK => ?_)
    (go_simp; go_at_call 14; (first | (refine (toPosition_c p1 pa1 sa1 pc1 sc1 _ (HH1.out.below (HFB.out.trans (Below.mono G1.below HFB.out.size)) (Nat.le_refl _)) l1_1 l2_1).mono ?_) | (refine (toPosition_c p1 pa1 sa1 pc1 sc1 _ (HH1.out.below (HFB.out.trans (Below.mono (G1.below.alloc G1.below.size _) HFB.out.size)) (Nat.le_refl _)) l1_1 l2_1).mono ?_)); (rintro e u2 ⟨b1, d1, t1, q1, rfl, hp1, hbk2⟩); (first | (have G2 := G1.step hbk2) | (have G2 := (G1.allocF #[.int .i64 0, .int .i64 0, .bool false, .bool false, .bool false, .bool false, .bool false, .int .i64 0, .int .i64 0, .slice none 0 0] 52).step hbk2)); (first | (have P2 := (P1.step hbk2).pos hp1) | (have P2 := ((P1.step (below_alloc1 _ _)).step hbk2).pos hp1)); (have z2 := hbk2.size); (try simp only [World.size_alloc, World.size_drew] at z2))
    refine hK.out _ _ ?_ (fun hHeld' => ?_)
    (focus ((try dsimp only); (first | done | (((refine HSKB.out _ ?_; first | (with_reducible exact G3.below) | (with_reducible exact G3.below.alloc G3.below.size _) | (with_reducible exact G2.below) | (with_reducible exact G2.below.alloc G2.below.size _) | (with_reducible exact G1.below) | (with_reducible exact G1.below.alloc G1.below.size _) | (with_reducible exact (Fr.start w2).drew.below) | (with_reducible exact ((Fr.start w2).allocF _ _).drew.below) | (with_reducible exact (Fr.start w2).below) | (repeat (first | (with_reducible exact G3.below) | ((with_reducible refine Below.setCell ?_ ?_ _); rotate_left; (simp <;> omega)))))); done))))
    clear hK K hHeld
    have hHeld := hHeld'
    clear hHeld'
    (try simp only [Act.put, List.setIfInBounds_toArray, List.set_cons_zero, List.set_cons_succ])
    refine bothH (i := 7) (j := 11) (by decide +kernel) (by rfl) (by rfl) (by rfl) (by rfl) (fun K hK => ?_) (fun K hK => ?_)
    (go_simp; go_at_call 34; (first | (refine (HS.out m0 b0 d0 b1 t1 d1 q1 _ (pcs_srows (P2.at 1 rfl).1) (by rw [(same_list he0 l1_0 L2_0.out).1]; exact l1_0) (same_list he0 l1_0 L2_0.out).2.1 he0 (P2.at 0 rfl).1.row l1_1 l2_1).mono ?_) | (refine (HS.out m0 b0 d0 b1 t1 d1 q1 _ (pcs_srows ((P2.step (below_alloc1 _ _)).at 1 rfl).1) (by rw [(same_list he0 l1_0 L2_0.out).1]; exact l1_0) (same_list he0 l1_0 L2_0.out).2.1 he0 ((P2.step (below_alloc1 _ _)).at 0 rfl).1.row l1_1 l2_1).mono ?_)); (rintro e uz ⟨mz, az, kz, hez, rfl, hpz, hbz⟩); (first | (have G3 := G2.step hbz) | (have G3 := (G2.allocF #[.int .i64 0, .int .i64 0, .bool false, .bool false, .bool false, .bool false, .bool false, .int .i64 0, .int .i64 0, .slice none 0 0] 52).step hbz)); (have zz := hbz.size); (try simp only [World.size_alloc, World.size_drew] at zz); (try (obtain ⟨bx, bf⟩ := G3.at 0 rfl; have x0 := bx 0 _ rfl; have x1 := bx 1 _ rfl; have x2 := bx 2 _ rfl; have x3 := bx 3 _ rfl; have x4 := bx 4 _ rfl; have x5 := bx 5 _ rfl; have x6 := bx 6 _ rfl; have x7 := bx 7 _ rfl; have x8 := bx 8 _ rfl; have x9 := bx 9 _ rfl; (try simp only [World.size_alloc, World.size_drew] at x0 x1 x2 x3 x4 x5 x6 x7 x8 x9 bf))))
    refine hK.out _ _ ?_ (fun hHeld' => ?_)
    (focus ((try dsimp only); (first | done | (((refine HSKB.out _ ?_; first | (with_reducible exact G3.below) | (with_reducible exact G3.below.alloc G3.below.size _) | (with_reducible exact G2.below) | (with_reducible exact G2.below.alloc G2.below.size _) | (with_reducible exact G1.below) | (with_reducible exact G1.below.alloc G1.below.size _) | (with_reducible exact (Fr.start w2).drew.below) | (with_reducible exact ((Fr.start w2).allocF _ _).drew.below) | (with_reducible exact (Fr.start w2).below) | (repeat (first | (with_reducible exact G3.below) | ((with_reducible refine Below.setCell ?_ ?_ _); rotate_left; (simp <;> omega)))))); done))))
    clear hK K hHeld
    have hHeld := hHeld'
    clear hHeld'
    (try simp only [Act.put, List.setIfInBounds_toArray, List.set_cons_zero, List.set_cons_succ])
    (refine takeH (i := 8) (v := ?_) (by decide +kernel) (by decide +kernel) (by kernel_rfl) (by rfl) (by exact fun _ _ _ h => h) (by rfl) ?_ (by assumption) ?_); rotate_left; (focus (intro w hSw; (try dsimp only at hSw); go_simp; (try with_reducible rfl); done)); (try simp only [Act.put, List.setIfInBounds_toArray, List.set_cons_zero, List.set_cons_succ])
    (refine takeH (i := 9) (v := ?_) (by decide +kernel) (by decide +kernel) (by kernel_rfl) (by rfl) (by exact fun _ _ _ h => h) (by rfl) ?_ (by assumption) ?_); rotate_left; (focus (intro w hSw; (try dsimp only at hSw); go_simp; (try with_reducible rfl); done)); (try simp only [Act.put, List.setIfInBounds_toArray, List.set_cons_zero, List.set_cons_succ])
    (refine takeH (i := 10) (v := ?_) (by decide +kernel) (by decide +kernel) (by kernel_rfl) (by rfl) (by exact fun _ _ _ h => h) (by rfl) ?_ (by assumption) ?_); rotate_left; (focus (intro w hSw; (try dsimp only at hSw); go_simp; (try with_reducible rfl); done)); (try simp only [Act.put, List.setIfInBounds_toArray, List.set_cons_zero, List.set_cons_succ])
    refine nextH (i := 11) (by decide +kernel) (by rfl) (by rfl) (fun K hK => ?_)
    go_simp
    (skip)
    refine hK.out _ _ ?_ (fun hHeld' => ?_)
    (focus ((try dsimp only); (first | done | (((refine HSKB.out _ ?_; first | (with_reducible exact G3.below) | (with_reducible exact G3.below.alloc G3.below.size _) | (with_reducible exact G2.below) | (with_reducible exact G2.below.alloc G2.below.size _) | (with_reducible exact G1.below) | (with_reducible exact G1.below.alloc G1.below.size _) | (with_reducible exact (Fr.start w2).drew.below) | (with_reducible exact ((Fr.start w2).allocF _ _).drew.below) | (with_reducible exact (Fr.start w2).below) | (repeat (first | (with_reducible exact G3.below) | ((with_reducible refine Below.setCell ?_ ?_ _); rotate_left; (simp <;> omega)))))); done))))
    clear hK K hHeld
    have hHeld := hHeld'
    clear hHeld'
    (try simp only [Act.put, List.setIfInBounds_toArray, List.set_cons_zero, List.set_cons_succ])
    refine nextH (i := 12) (by decide +kernel) (by rfl) (by rfl) (fun K hK => ?_)
    go_simp
    (skip)
    refine hK.out _ _ ?_ (fun hHeld' => ?_)
    (focus ((try dsimp only); (first | done | (((refine HSKB.out _ ?_; first | (with_reducible exact G3.below) | (with_reducible exact G3.below.alloc G3.below.size _) | (with_reducible exact G2.below) | (with_reducible exact G2.below.alloc G2.below.size _) | (with_reducible exact G1.below) | (with_reducible exact G1.below.alloc G1.below.size _) | (with_reducible exact (Fr.start w2).drew.below) | (with_reducible exact ((Fr.start w2).allocF _ _).drew.below) | (with_reducible exact (Fr.start w2).below) | (repeat (first | (with_reducible exact G3.below) | ((with_reducible refine Below.setCell ?_ ?_ _); rotate_left; (simp <;> omega)))))); done))))
    clear hK K hHeld
    have hHeld := hHeld'
    clear hHeld'
    (try simp only [Act.put, List.setIfInBounds_toArray, List.set_cons_zero, List.set_cons_succ])
    (refine takeH (i := 13) (v := ?_) (by decide +kernel) (by decide +kernel) (by kernel_rfl) (by rfl) (by exact fun _ _ _ h => h) (by rfl) ?_ (by assumption) ?_); rotate_left; (focus (intro w hSw; (try dsimp only at hSw); go_simp; (try with_reducible rfl); done)); (try simp only [Act.put, List.setIfInBounds_toArray, List.set_cons_zero, List.set_cons_succ])
    refine wpAnyH_done (by decide +kernel) ?_ _
    rotate_left 1
    go_simp
    (skip)
    refine hK.out _ _ ?_ (fun hHeld' => ?_)
    (focus ((try dsimp only); (first | done | (((refine HSKB.out _ ?_; first | (with_reducible exact G3.below) | (with_reducible exact G3.below.alloc G3.below.size _) | (with_reducible exact G2.below) | (with_reducible exact G2.below.alloc G2.below.size _) | (with_reducible exact G1.below) | (with_reducible exact G1.below.alloc G1.below.size _) | (with_reducible exact (Fr.start w2).drew.below) | (with_reducible exact ((Fr.start w2).allocF _ _).drew.below) | (with_reducible exact (Fr.start w2).below) | (repeat (first | (with_reducible exact G3.below) | ((with_reducible refine Below.setCell ?_ ?_ _); rotate_left; (simp <;> omega)))))); done))))
    clear hK K hHeld
    have hHeld := hHeld'
    clear hHeld'
    (try simp only [Act.put, List.setIfInBounds_toArray, List.set_cons_zero, List.set_cons_succ])
    refine nextH (i := 7) (by decide +kernel) (by rfl) (by rfl) (fun K hK => ?_)
    (go_simp; go_at_call 34; (first | (refine (HS.out m0 b0 d0 b1 t1 d1 q1 _ (pcs_srows (P2.at 1 rfl).1) (by rw [(same_list he0 l1_0 L2_0.out).1]; exact l1_0) (same_list he0 l1_0 L2_0.out).2.1 he0 (P2.at 0 rfl).1.row l1_1 l2_1).mono ?_) | (refine (HS.out m0 b0 d0 b1 t1 d1 q1 _ (pcs_srows ((P2.step (below_alloc1 _ _)).at 1 rfl).1) (by rw [(same_list he0 l1_0 L2_0.out).1]; exact l1_0) (same_list he0 l1_0 L2_0.out).2.1 he0 ((P2.step (below_alloc1 _ _)).at 0 rfl).1.row l1_1 l2_1).mono ?_)); (rintro e uz ⟨mz, az, kz, hez, rfl, hpz, hbz⟩); (first | (have G3 := G2.step hbz) | (have G3 := (G2.allocF #[.int .i64 0, .int .i64 0, .bool false, .bool false, .bool false, .bool false, .bool false, .int .i64 0, .int .i64 0, .slice none 0 0] 52).step hbz)); (have zz := hbz.size); (try simp only [World.size_alloc, World.size_drew] at zz); (try (obtain ⟨bx, bf⟩ := G3.at 0 rfl; have x0 := bx 0 _ rfl; have x1 := bx 1 _ rfl; have x2 := bx 2 _ rfl; have x3 := bx 3 _ rfl; have x4 := bx 4 _ rfl; have x5 := bx 5 _ rfl; have x6 := bx 6 _ rfl; have x7 := bx 7 _ rfl; have x8 := bx 8 _ rfl; have x9 := bx 9 _ rfl; (try simp only [World.size_alloc, World.size_drew] at x0 x1 x2 x3 x4 x5 x6 x7 x8 x9 bf))))
    refine hK.out _ _ ?_ (fun hHeld' => ?_)
    (focus ((try dsimp only); (first | done | (((refine HSKB.out _ ?_; first | (with_reducible exact G3.below) | (with_reducible exact G3.below.alloc G3.below.size _) | (with_reducible exact G2.below) | (with_reducible exact G2.below.alloc G2.below.size _) | (with_reducible exact G1.below) | (with_reducible exact G1.below.alloc G1.below.size _) | (with_reducible exact (Fr.start w2).drew.below) | (with_reducible exact ((Fr.start w2).allocF _ _).drew.below) | (with_reducible exact (Fr.start w2).below) | (repeat (first | (with_reducible exact G3.below) | ((with_reducible refine Below.setCell ?_ ?_ _); rotate_left; (simp <;> omega)))))); done))))
    clear hK K hHeld
    have hHeld := hHeld'
    clear hHeld'
    (try simp only [Act.put, List.setIfInBounds_toArray, List.set_cons_zero, List.set_cons_succ])
    (refine takeH (i := 8) (v := ?_) (by decide +kernel) (by decide +kernel) (by kernel_rfl) (by rfl) (by exact fun _ _ _ h => h) (by rfl) ?_ (by assumption) ?_); rotate_left; (focus (intro w hSw; (try dsimp only at hSw); go_simp; (try with_reducible rfl); done)); (try simp only [Act.put, List.setIfInBounds_toArray, List.set_cons_zero, List.set_cons_succ])
    (refine takeH (i := 9) (v := ?_) (by decide +kernel) (by decide +kernel) (by kernel_rfl) (by rfl) (by exact fun _ _ _ h => h) (by rfl) ?_ (by assumption) ?_); rotate_left; (focus (intro w hSw; (try dsimp only at hSw); go_simp; (try with_reducible rfl); done)); (try simp only [Act.put, List.setIfInBounds_toArray, List.set_cons_zero, List.set_cons_succ])
    (refine takeH (i := 10) (v := ?_) (by decide +kernel) (by decide +kernel) (by kernel_rfl) (by rfl) (by exact fun _ _ _ h => h) (by rfl) ?_ (by assumption) ?_); rotate_left; (focus (intro w hSw; (try dsimp only at hSw); go_simp; (try with_reducible rfl); done)); (try simp only [Act.put, List.setIfInBounds_toArray, List.set_cons_zero, List.set_cons_succ])
    refine nextH (i := 12) (by decide +kernel) (by rfl) (by rfl) (fun K hK => ?_)
    go_simp
    (skip)
    refine hK.out _ _ ?_ (fun hHeld' => ?_)
    (focus ((try dsimp only); (first | done | (((refine HSKB.out _ ?_; first | (with_reducible exact G3.below) | (with_reducible exact G3.below.alloc G3.below.size _) | (with_reducible exact G2.below) | (with_reducible exact G2.below.alloc G2.below.size _) | (with_reducible exact G1.below) | (with_reducible exact G1.below.alloc G1.below.size _) | (with_reducible exact (Fr.start w2).drew.below) | (with_reducible exact ((Fr.start w2).allocF _ _).drew.below) | (with_reducible exact (Fr.start w2).below) | (repeat (first | (with_reducible exact G3.below) | ((with_reducible refine Below.setCell ?_ ?_ _); rotate_left; (simp <;> omega)))))); done))))
    clear hK K hHeld
    have hHeld := hHeld'
    clear hHeld'
    (try simp only [Act.put, List.setIfInBounds_toArray, List.set_cons_zero, List.set_cons_succ])
    (refine takeH (i := 13) (v := ?_) (by decide +kernel) (by decide +kernel) (by kernel_rfl) (by rfl) (by exact fun _ _ _ h => h) (by rfl) ?_ (by assumption) ?_); rotate_left; (focus (intro w hSw; (try dsimp only at hSw); go_simp; (try with_reducible rfl); done)); (try simp only [Act.put, List.setIfInBounds_toArray, List.set_cons_zero, List.set_cons_succ])
    refine wpAnyH_done (by decide +kernel) ?_ _
    rotate_left 1
    go_simp
    (skip)
    refine hK.out _ _ ?_ (fun hHeld' => ?_)
    (focus ((try dsimp only); (first | done | (((refine HSKB.out _ ?_; first | (with_reducible exact G3.below) | (with_reducible exact G3.below.alloc G3.below.size _) | (with_reducible exact G2.below) | (with_reducible exact G2.below.alloc G2.below.size _) | (with_reducible exact G1.below) | (with_reducible exact G1.below.alloc G1.below.size _) | (with_reducible exact (Fr.start w2).drew.below) | (with_reducible exact ((Fr.start w2).allocF _ _).drew.below) | (with_reducible exact (Fr.start w2).below) | (repeat (first | (with_reducible exact G3.below) | ((with_reducible refine Below.setCell ?_ ?_ _); rotate_left; (simp <;> omega)))))); done))))
    clear hK K hHeld
    have hHeld := hHeld'
    clear hHeld'
    (try simp only [Act.put, List.setIfInBounds_toArray, List.set_cons_zero, List.set_cons_succ])
    refine nextH (i := 3) (by decide +kernel) (by rfl) (by rfl) (fun K hK => ?_)
    (go_simp; go_at_call 14; (first | (refine (toPosition_c p1 pa1 sa1 pc1 sc1 _ (HH1.out.below (HFB.out.trans (Below.mono G1.below HFB.out.size)) (Nat.le_refl _)) l1_1 l2_1).mono ?_) | (refine (toPosition_c p1 pa1 sa1 pc1 sc1 _ (HH1.out.below (HFB.out.trans (Below.mono (G1.below.alloc G1.below.size _) HFB.out.size)) (Nat.le_refl _)) l1_1 l2_1).mono ?_)); (rintro e u2 ⟨b1, d1, t1, q1, rfl, hp1, hbk2⟩); (first | (have G2 := G1.step hbk2) | (have G2 := (G1.allocF #[.int .i64 0, .int .i64 0, .bool false, .bool false, .bool false, .bool false, .bool false, .int .i64 0, .int .i64 0, .slice none 0 0] 52).step hbk2)); (first | (have P2 := (P1.step hbk2).pos hp1) | (have P2 := ((P1.step (below_alloc1 _ _)).step hbk2).pos hp1)); (have z2 := hbk2.size); (try simp only [World.size_alloc, World.size_drew] at z2))
    refine hK.out _ _ ?_ (fun hHeld' => ?_)
    (focus ((try dsimp only); (first | done | (((refine HSKB.out _ ?_; first | (with_reducible exact G3.below) | (with_reducible exact G3.below.alloc G3.below.size _) | (with_reducible exact G2.below) | (with_reducible exact G2.below.alloc G2.below.size _) | (with_reducible exact G1.below) | (with_reducible exact G1.below.alloc G1.below.size _) | (with_reducible exact (Fr.start w2).drew.below) | (with_reducible exact ((Fr.start w2).allocF _ _).drew.below) | (with_reducible exact (Fr.start w2).below) | (repeat (first | (with_reducible exact G3.below) | ((with_reducible refine Below.setCell ?_ ?_ _); rotate_left; (simp <;> omega)))))); done))))
    clear hK K hHeld
    have hHeld := hHeld'
    clear hHeld'
    (try simp only [Act.put, List.setIfInBounds_toArray, List.set_cons_zero, List.set_cons_succ])
    refine nextH (i := 7) (by decide +kernel) (by rfl) (by rfl) (fun K hK => ?_)
    (go_simp; go_at_call 34; (first | (refine (HS.out m0 b0 d0 b1 t1 d1 q1 _ (pcs_srows (P2.at 1 rfl).1) (by rw [(same_list he0 l1_0 L2_0.out).1]; exact l1_0) (same_list he0 l1_0 L2_0.out).2.1 he0 (P2.at 0 rfl).1.row l1_1 l2_1).mono ?_) | (refine (HS.out m0 b0 d0 b1 t1 d1 q1 _ (pcs_srows ((P2.step (below_alloc1 _ _)).at 1 rfl).1) (by rw [(same_list he0 l1_0 L2_0.out).1]; exact l1_0) (same_list he0 l1_0 L2_0.out).2.1 he0 ((P2.step (below_alloc1 _ _)).at 0 rfl).1.row l1_1 l2_1).mono ?_)); (rintro e uz ⟨mz, az, kz, hez, rfl, hpz, hbz⟩); (first | (have G3 := G2.step hbz) | (have G3 := (G2.allocF #[.int .i64 0, .int .i64 0, .bool false, .bool false, .bool false, .bool false, .bool false, .int .i64 0, .int .i64 0, .slice none 0 0] 52).step hbz)); (have zz := hbz.size); (try simp only [World.size_alloc, World.size_drew] at zz); (try (obtain ⟨bx, bf⟩ := G3.at 0 rfl; have x0 := bx 0 _ rfl; have x1 := bx 1 _ rfl; have x2 := bx 2 _ rfl; have x3 := bx 3 _ rfl; have x4 := bx 4 _ rfl; have x5 := bx 5 _ rfl; have x6 := bx 6 _ rfl; have x7 := bx 7 _ rfl; have x8 := bx 8 _ rfl; have x9 := bx 9 _ rfl; (try simp only [World.size_alloc, World.size_drew] at x0 x1 x2 x3 x4 x5 x6 x7 x8 x9 bf))))
    refine hK.out _ _ ?_ (fun hHeld' => ?_)
    (focus ((try dsimp only); (first | done | (((refine HSKB.out _ ?_; first | (with_reducible exact G3.below) | (with_reducible exact G3.below.alloc G3.below.size _) | (with_reducible exact G2.below) | (with_reducible exact G2.below.alloc G2.below.size _) | (with_reducible exact G1.below) | (with_reducible exact G1.below.alloc G1.below.size _) | (with_reducible exact (Fr.start w2).drew.below) | (with_reducible exact ((Fr.start w2).allocF _ _).drew.below) | (with_reducible exact (Fr.start w2).below) | (repeat (first | (with_reducible exact G3.below) | ((with_reducible refine Below.setCell ?_ ?_ _); rotate_left; (simp <;> omega)))))); done))))
    clear hK K hHeld
    have hHeld := hHeld'
    clear hHeld'
    (try simp only [Act.put, List.setIfInBounds_toArray, List.set_cons_zero, List.set_cons_succ])
    (refine takeH (i := 8) (v := ?_) (by decide +kernel) (by decide +kernel) (by kernel_rfl) (by rfl) (by exact fun _ _ _ h => h) (by rfl) ?_ (by assumption) ?_); rotate_left; (focus (intro w hSw; (try dsimp only at hSw); go_simp; (try with_reducible rfl); done)); (try simp only [Act.put, List.setIfInBounds_toArray, List.set_cons_zero, List.set_cons_succ])
    (refine takeH (i := 9) (v := ?_) (by decide +kernel) (by decide +kernel) (by kernel_rfl) (by rfl) (by exact fun _ _ _ h => h) (by rfl) ?_ (by assumption) ?_); rotate_left; (focus (intro w hSw; (try dsimp only at hSw); go_simp; (try with_reducible rfl); done)); (try simp only [Act.put, List.setIfInBounds_toArray, List.set_cons_zero, List.set_cons_succ])
    (refine takeH (i := 10) (v := ?_) (by decide +kernel) (by decide +kernel) (by kernel_rfl) (by rfl) (by exact fun _ _ _ h => h) (by rfl) ?_ (by assumption) ?_); rotate_left; (focus (intro w hSw; (try dsimp only at hSw); go_simp; (try with_reducible rfl); done)); (try simp only [Act.put, List.setIfInBounds_toArray, List.set_cons_zero, List.set_cons_succ])
    refine nextH (i := 12) (by decide +kernel) (by rfl) (by rfl) (fun K hK => ?_)
    go_simp
    (skip)
    refine hK.out _ _ ?_ (fun hHeld' => ?_)
    (focus ((try dsimp only); (first | done | (((refine HSKB.out _ ?_; first | (with_reducible exact G3.below) | (with_reducible exact G3.below.alloc G3.below.size _) | (with_reducible exact G2.below) | (with_reducible exact G2.below.alloc G2.below.size _) | (with_reducible exact G1.below) | (with_reducible exact G1.below.alloc G1.below.size _) | (with_reducible exact (Fr.start w2).drew.below) | (with_reducible exact ((Fr.start w2).allocF _ _).drew.below) | (with_reducible exact (Fr.start w2).below) | (repeat (first | (with_reducible exact G3.below) | ((with_reducible refine Below.setCell ?_ ?_ _); rotate_left; (simp <;> omega)))))); done))))
    clear hK K hHeld
    have hHeld := hHeld'
    clear hHeld'
    (try simp only [Act.put, List.setIfInBounds_toArray, List.set_cons_zero, List.set_cons_succ])
    (refine takeH (i := 13) (v := ?_) (by decide +kernel) (by decide +kernel) (by kernel_rfl) (by rfl) (by exact fun _ _ _ h => h) (by rfl) ?_ (by assumption) ?_); rotate_left; (focus (intro w hSw; (try dsimp only at hSw); go_simp; (try with_reducible rfl); done)); (try simp only [Act.put, List.setIfInBounds_toArray, List.set_cons_zero, List.set_cons_succ])
    refine wpAnyH_done (by decide +kernel) ?_ _
    rotate_left 1
    go_simp
    (skip)
    refine hK.out _ _ ?_ (fun hHeld' => ?_)
    (focus ((try dsimp only); (first | done | (((refine HSKB.out _ ?_; first | (with_reducible exact G3.below) | (with_reducible exact G3.below.alloc G3.below.size _) | (with_reducible exact G2.below) | (with_reducible exact G2.below.alloc G2.below.size _) | (with_reducible exact G1.below) | (with_reducible exact G1.below.alloc G1.below.size _) | (with_reducible exact (Fr.start w2).drew.below) | (with_reducible exact ((Fr.start w2).allocF _ _).drew.below) | (with_reducible exact (Fr.start w2).below) | (repeat (first | (with_reducible exact G3.below) | ((with_reducible refine Below.setCell ?_ ?_ _); rotate_left; (simp <;> omega)))))); done))))
    clear hK K hHeld
    have hHeld := hHeld'
    clear hHeld'
    (try simp only [Act.put, List.setIfInBounds_toArray, List.set_cons_zero, List.set_cons_succ])
    refine nextH (i := 1) (by decide +kernel) (by rfl) (by rfl) (fun K hK => ?_)
    (go_simp; go_at_call 27; (first | (refine (toMemory_c r0 l0 a0 cp0 _ (HH0.out.below (HFB.out.trans (Below.mono ((Fr.start w2).drew.below) HFB.out.size)) (Nat.le_refl _)) l1_0 L2_0.out).mono ?_) | (refine (toMemory_c r0 l0 a0 cp0 _ (HH0.out.below (HFB.out.trans (Below.mono (((Fr.start w2).allocF _ _).drew.below) HFB.out.size)) (Nat.le_refl _)) l1_0 L2_0.out).mono ?_)); (rintro e u1 ⟨m0, b0, d0, he0, rfl, hp0, hbk1⟩); (first | (have G1 := (Fr.start w2).drew.step hbk1) | (have G1 := ((Fr.start w2).allocF #[.int .i64 0, .int .i64 0, .bool false, .bool false, .bool false, .bool false, .bool false, .int .i64 0, .int .i64 0, .slice none 0 0] 52).drew.step hbk1)); (have P1 := G1.pcs hp0); (have z1 := hbk1.size); (try simp only [World.size_alloc, World.size_drew] at z1))
    refine hK.out _ _ ?_ (fun hHeld' => ?_)
    (focus ((try dsimp only); (first | done | (((refine HSKB.out _ ?_; first | (with_reducible exact G3.below) | (with_reducible exact G3.below.alloc G3.below.size _) | (with_reducible exact G2.below) | (with_reducible exact G2.below.alloc G2.below.size _) | (with_reducible exact G1.below) | (with_reducible exact G1.below.alloc G1.below.size _) | (with_reducible exact (Fr.start w2).drew.below) | (with_reducible exact ((Fr.start w2).allocF _ _).drew.below) | (with_reducible exact (Fr.start w2).below) | (repeat (first | (with_reducible exact G3.below) | ((with_reducible refine Below.setCell ?_ ?_ _); rotate_left; (simp <;> omega)))))); done))))
    clear hK K hHeld
    have hHeld := hHeld'
    clear hHeld'
    (try simp only [Act.put, List.setIfInBounds_toArray, List.set_cons_zero, List.set_cons_succ])
    refine nextH (i := 3) (by decide +kernel) (by rfl) (by rfl) (fun K hK => ?_)
    (go_simp; go_at_call 14; (first | (refine (toPosition_c p1 pa1 sa1 pc1 sc1 _ (HH1.out.below (HFB.out.trans (Below.mono G1.below HFB.out.size)) (Nat.le_refl _)) l1_1 l2_1).mono ?_) | (refine (toPosition_c p1 pa1 sa1 pc1 sc1 _ (HH1.out.below (HFB.out.trans (Below.mono (G1.below.alloc G1.below.size _) HFB.out.size)) (Nat.le_refl _)) l1_1 l2_1).mono ?_)); (rintro e u2 ⟨b1, d1, t1, q1, rfl, hp1, hbk2⟩); (first | (have G2 := G1.step hbk2) | (have G2 := (G1.allocF #[.int .i64 0, .int .i64 0, .bool false, .bool false, .bool false, .bool false, .bool false, .int .i64 0, .int .i64 0, .slice none 0 0] 52).step hbk2)); (first | (have P2 := (P1.step hbk2).pos hp1) | (have P2 := ((P1.step (below_alloc1 _ _)).step hbk2).pos hp1)); (have z2 := hbk2.size); (try simp only [World.size_alloc, World.size_drew] at z2))
    refine hK.out _ _ ?_ (fun hHeld' => ?_)
    (focus ((try dsimp only); (first | done | (((refine HSKB.out _ ?_; first | (with_reducible exact G3.below) | (with_reducible exact G3.below.alloc G3.below.size _) | (with_reducible exact G2.below) | (with_reducible exact G2.below.alloc G2.below.size _) | (with_reducible exact G1.below) | (with_reducible exact G1.below.alloc G1.below.size _) | (with_reducible exact (Fr.start w2).drew.below) | (with_reducible exact ((Fr.start w2).allocF _ _).drew.below) | (with_reducible exact (Fr.start w2).below) | (repeat (first | (with_reducible exact G3.below) | ((with_reducible refine Below.setCell ?_ ?_ _); rotate_left; (simp <;> omega)))))); done))))
    clear hK K hHeld
    have hHeld := hHeld'
    clear hHeld'
    (try simp only [Act.put, List.setIfInBounds_toArray, List.set_cons_zero, List.set_cons_succ])
    refine nextH (i := 7) (by decide +kernel) (by rfl) (by rfl) (fun K hK => ?_)
    (go_simp; go_at_call 34; (first | (refine (HS.out m0 b0 d0 b1 t1 d1 q1 _ (pcs_srows (P2.at 1 rfl).1) (by rw [(same_list he0 l1_0 L2_0.out).1]; exact l1_0) (same_list he0 l1_0 L2_0.out).2.1 he0 (P2.at 0 rfl).1.row l1_1 l2_1).mono ?_) | (refine (HS.out m0 b0 d0 b1 t1 d1 q1 _ (pcs_srows ((P2.step (below_alloc1 _ _)).at 1 rfl).1) (by rw [(same_list he0 l1_0 L2_0.out).1]; exact l1_0) (same_list he0 l1_0 L2_0.out).2.1 he0 ((P2.step (below_alloc1 _ _)).at 0 rfl).1.row l1_1 l2_1).mono ?_)); (rintro e uz ⟨mz, az, kz, hez, rfl, hpz, hbz⟩); (first | (have G3 := G2.step hbz) | (have G3 := (G2.allocF #[.int .i64 0, .int .i64 0, .bool false, .bool false, .bool false, .bool false, .bool false, .int .i64 0, .int .i64 0, .slice none 0 0] 52).step hbz)); (have zz := hbz.size); (try simp only [World.size_alloc, World.size_drew] at zz); (try (obtain ⟨bx, bf⟩ := G3.at 0 rfl; have x0 := bx 0 _ rfl; have x1 := bx 1 _ rfl; have x2 := bx 2 _ rfl; have x3 := bx 3 _ rfl; have x4 := bx 4 _ rfl; have x5 := bx 5 _ rfl; have x6 := bx 6 _ rfl; have x7 := bx 7 _ rfl; have x8 := bx 8 _ rfl; have x9 := bx 9 _ rfl; (try simp only [World.size_alloc, World.size_drew] at x0 x1 x2 x3 x4 x5 x6 x7 x8 x9 bf))))
    refine hK.out _ _ ?_ (fun hHeld' => ?_)
    (focus ((try dsimp only); (first | done | (((refine HSKB.out _ ?_; first | (with_reducible exact G3.below) | (with_reducible exact G3.below.alloc G3.below.size _) | (with_reducible exact G2.below) | (with_reducible exact G2.below.alloc G2.below.size _) | (with_reducible exact G1.below) | (with_reducible exact G1.below.alloc G1.below.size _) | (with_reducible exact (Fr.start w2).drew.below) | (with_reducible exact ((Fr.start w2).allocF _ _).drew.below) | (with_reducible exact (Fr.start w2).below) | (repeat (first | (with_reducible exact G3.below) | ((with_reducible refine Below.setCell ?_ ?_ _); rotate_left; (simp <;> omega)))))); done))))
    clear hK K hHeld
    have hHeld := hHeld'
    clear hHeld'
    (try simp only [Act.put, List.setIfInBounds_toArray, List.set_cons_zero, List.set_cons_succ])
    (refine takeH (i := 8) (v := ?_) (by decide +kernel) (by decide +kernel) (by kernel_rfl) (by rfl) (by exact fun _ _ _ h => h) (by rfl) ?_ (by assumption) ?_); rotate_left; (focus (intro w hSw; (try dsimp only at hSw); go_simp; (try with_reducible rfl); done)); (try simp only [Act.put, List.setIfInBounds_toArray, List.set_cons_zero, List.set_cons_succ])
    (refine takeH (i := 9) (v := ?_) (by decide +kernel) (by decide +kernel) (by kernel_rfl) (by rfl) (by exact fun _ _ _ h => h) (by rfl) ?_ (by assumption) ?_); rotate_left; (focus (intro w hSw; (try dsimp only at hSw); go_simp; (try with_reducible rfl); done)); (try simp only [Act.put, List.setIfInBounds_toArray, List.set_cons_zero, List.set_cons_succ])
    (refine takeH (i := 10) (v := ?_) (by decide +kernel) (by decide +kernel) (by kernel_rfl) (by rfl) (by exact fun _ _ _ h => h) (by rfl) ?_ (by assumption) ?_); rotate_left; (focus (intro w hSw; (try dsimp only at hSw); go_simp; (try with_reducible rfl); done)); (try simp only [Act.put, List.setIfInBounds_toArray, List.set_cons_zero, List.set_cons_succ])
    refine nextH (i := 12) (by decide +kernel) (by rfl) (by rfl) (fun K hK => ?_)
    go_simp
    (skip)
    refine hK.out _ _ ?_ (fun hHeld' => ?_)
    (focus ((try dsimp only); (first | done | (((refine HSKB.out _ ?_; first | (with_reducible exact G3.below) | (with_reducible exact G3.below.alloc G3.below.size _) | (with_reducible exact G2.below) | (with_reducible exact G2.below.alloc G2.below.size _) | (with_reducible exact G1.below) | (with_reducible exact G1.below.alloc G1.below.size _) | (with_reducible exact (Fr.start w2).drew.below) | (with_reducible exact ((Fr.start w2).allocF _ _).drew.below) | (with_reducible exact (Fr.start w2).below) | (repeat (first | (with_reducible exact G3.below) | ((with_reducible refine Below.setCell ?_ ?_ _); rotate_left; (simp <;> omega)))))); done))))
    clear hK K hHeld
    have hHeld := hHeld'
    clear hHeld'
    (try simp only [Act.put, List.setIfInBounds_toArray, List.set_cons_zero, List.set_cons_succ])
    (refine takeH (i := 13) (v := ?_) (by decide +kernel) (by decide +kernel) (by kernel_rfl) (by rfl) (by exact fun _ _ _ h => h) (by rfl) ?_ (by assumption) ?_); rotate_left; (focus (intro w hSw; (try dsimp only at hSw); go_simp; (try with_reducible rfl); done)); (try simp only [Act.put, List.setIfInBounds_toArray, List.set_cons_zero, List.set_cons_succ])
    refine wpAnyH_done (by decide +kernel) ?_ _
    all_goals (try (go_wp2_with fail))
    all_goals go_meet
    all_goals
      try simp only [World.size_alloc, World.size_drew] at hpz
      have FF := ((HFL.out.step G3.below).pcs hpz)
      first
      | (have KE := FF.stored10M (v0 := .int .i64 yr.pits) (v1 := .int .i64 yr.seeds) (v2 := .bool yr.stores) (v3 := .bool yr.skip) (v4 := .bool yr.relay) (v5 := .bool yr.feed) (v6 := .bool yr.again) (v7 := .int .i64 yr.capture) (v8 := .int .i64 yr.slam) (v9 := .slice az mz.length kz) bx bf (by omega) (by intro r hr; rcases List.mem_cons.1 hr with rfl | hr; exact Or.inr (by first | omega | (simp; done) | (simp; omega)); exact Or.inl (by have := (HFL.out.res r hr).1; omega)); with_reducible refine ⟨_, mz, az, kz, _, _, rfl, rfl, hez, ?_, ?_, KE⟩ <;> omega)
      | (have KL := FF.alloc10M (.int .i64 yr.pits) (.int .i64 yr.seeds) (.bool yr.stores) (.bool yr.skip) (.bool yr.relay) (.bool yr.feed) (.bool yr.again) (.int .i64 yr.capture) (.int .i64 yr.slam) (.slice az mz.length kz) 52; with_reducible refine ⟨_, mz, az, kz, _, _, rfl, rfl, hez, ?_, ?_, KL⟩ <;> omega)
  case rest =>
  obtain ⟨nb_w, m_w, a_w, k_w, lo_w, hi_w, rfl, rfl, he_w, g0_w, g1_w, F_w⟩ := hcut
  have hls := HLS.out
  subst hls
  have HE_w := Lib.hid he_w
  clear he_w HLS HFL HSKB HFB
  have y0_w : nb_w + 1 ≤ wc.heap.size := F_w.le 0 rfl
  have y1_w : hi_w ≤ wc.heap.size := F_w.le 1 rfl
  skip
  obtain ⟨c0, c1, c2, c3, c4, c5, c6, c7, c8, c9⟩ := me_box (F_w.at 3 rfl)
  have HT := Lib.hid (toMemory_c r0 l0 a0 cp0 wc (HH0.out.below F_w.below (Nat.le_refl _)) l1_0 L2_0.out)
  go_wp2_with fail
  refine HT.out.mono ?_
  rintro e w3 ⟨x0_m, x0_a, x0_k, hex, rfl, hpx, hbx⟩
  have F_w4 := ((F_w.step hbx).pcs hpx).alloc #[.int .i64 r0.pits, .int .i64 r0.seeds, .bool r0.stores, .bool r0.skip, .bool r0.relay, .bool r0.feed, .bool r0.again, .int .i64 r0.capture, .int .i64 r0.slam, .slice x0_a x0_m.length x0_k] 52
  obtain ⟨w4, hW⟩ : ∃ W, W = World.alloc w3 (.cells #[.int .i64 r0.pits, .int .i64 r0.seeds, .bool r0.stores, .bool r0.skip, .bool r0.relay, .bool r0.feed, .bool r0.again, .int .i64 r0.capture, .int .i64 r0.slam, .slice x0_a x0_m.length x0_k] 52) := ⟨_, rfl⟩
  rw [← hW] at F_w4
  have HW := Lib.hid hW
  clear hW
  have s_w3 : wc.heap.size ≤ w3.heap.size := hbx.size
  have s_w4 : w3.heap.size + 1 ≤ w4.heap.size := F_w4.le 0 rfl
  have HXE0 := Lib.hid hex
  obtain ⟨nx0, qx, px, ux0⟩ := same_list hex l1_0 L2_0.out
  have HXQ0 := Lib.hid qx
  have HXP0 := Lib.hid px
  have HXU0 := Lib.hid ux0
  have HXN0 := Lib.hid nx0
  clear hex qx px ux0 nx0
  clear hpx hbx F_w HT c0 c1 c2 c3 c4 c5 c6 c7 c8 c9
  go_upto_region 10 with fail
  rw [← HW.out]
  clear HW
  obtain ⟨c0, c1, c2⟩ := (⟨F_w4.at 4 rfl 0 _ rfl, F_w4.at 4 rfl 1 _ rfl, F_w4.at 4 rfl 2 _ rfl⟩ : _ ∧ _ ∧ _)
  have HT := Lib.hid (toPosition_c p1 pa1 sa1 pc1 sc1 w4 (HH1.out.below F_w4.below (Nat.le_refl _)) l1_1 l2_1)
  go_upto_region 10 with fail
  go_wp2_with fail
  refine HT.out.mono ?_
  rintro e w5 ⟨x1_a, x1_c, x1_s, x1_t, rfl, hpx, hbx⟩
  have F_w6 := ((F_w4.step hbx).pos hpx).alloc #[.slice x1_a p1.pits.length x1_c, .slice x1_s p1.stores.length x1_t, .int .i64 p1.player] 30
  obtain ⟨w6, hW⟩ : ∃ W, W = World.alloc w5 (.cells #[.slice x1_a p1.pits.length x1_c, .slice x1_s p1.stores.length x1_t, .int .i64 p1.player] 30) := ⟨_, rfl⟩
  rw [← hW] at F_w6
  have HW := Lib.hid hW
  clear hW
  have s_w5 : w4.heap.size ≤ w5.heap.size := hbx.size
  have s_w6 : w5.heap.size + 1 ≤ w6.heap.size := F_w6.le 0 rfl
  clear hpx hbx F_w4 HT c0 c1 c2
  go_upto_region 11 with fail
  rw [← HW.out]
  clear HW
  obtain ⟨a0, a1, a2, a3, a4, a5, a6, a7, a8, a9⟩ := me_box (F_w6.at 2 rfl)
  obtain ⟨b0, b1, b2⟩ := (⟨F_w6.at 0 rfl 0 _ rfl, F_w6.at 0 rfl 1 _ rfl, F_w6.at 0 rfl 2 _ rfl⟩ : _ ∧ _ ∧ _)
  have HC := Lib.hid (HI.out x0_m x0_a x0_k x1_a x1_s x1_c x1_t w6 (pcs_srows (F_w6.at 3 rfl).1) (by rw [HXN0.out]; exact l1_0) HXQ0.out HXE0.out (F_w6.at 1 rfl).1.row l1_1 l2_1)
  go_wp2_with fail
  refine HC.out.mono ?_
  rintro e w7 ⟨mg, ag, kg, hex, rfl, hpx, hbx⟩
  have F_w8 := ((F_w6.step hbx).pcs hpx).alloc #[.int .i64 yr.pits, .int .i64 yr.seeds, .bool yr.stores, .bool yr.skip, .bool yr.relay, .bool yr.feed, .bool yr.again, .int .i64 yr.capture, .int .i64 yr.slam, .slice ag mg.length kg] 52
  obtain ⟨w8, hW⟩ : ∃ W, W = World.alloc w7 (.cells #[.int .i64 yr.pits, .int .i64 yr.seeds, .bool yr.stores, .bool yr.skip, .bool yr.relay, .bool yr.feed, .bool yr.again, .int .i64 yr.capture, .int .i64 yr.slam, .slice ag mg.length kg] 52) := ⟨_, rfl⟩
  rw [← hW] at F_w8
  have HW := Lib.hid hW
  clear hW
  have s_w7 : w6.heap.size ≤ w7.heap.size := hbx.size
  have s_w8 : w7.heap.size + 1 ≤ w8.heap.size := F_w8.le 0 rfl
  have HEG := Lib.hid hex
  clear hex hpx hbx F_w6 HC a0 a1 a2 a3 a4 a5 a6 a7 a8 a9 b0 b1 b2
  go_upto_region 12 with fail
  rw [← HW.out]
  clear HW
  obtain ⟨ng, _, pg, ug, vg⟩ := few_list HF.out HEG.out
  have HNG := Lib.hid ng
  have HPG := Lib.hid pg
  have HUG := Lib.hid (And.intro ug vg)
  clear ng pg ug vg
  obtain ⟨x0, x1, x2, x3, x4, x5, x6, x7, x8, x9⟩ := me_box (F_w8.at 0 rfl)
  obtain ⟨z0, z1, z2, z3, z4, z5, z6, z7, z8, z9⟩ := me_box (F_w8.at 6 rfl)
  go_wp2_with fail
  refine (eqMemory_c yr mg m_w ag a_w kg k_w w8 (pcs_srows (F_w8.at 1 rfl).1) (pcs_srows (F_w8.at 7 rfl).1) (HEG.out.trans HE_w.out.symm) (by have := HNG.out; omega) HPG.out).mono ?_
  rintro e w9 ⟨rfl, hb⟩
  have F_w9 := F_w8.step hb
  have s_w9 : w8.heap.size ≤ w9.heap.size := hb.size
  clear hb F_w8
  clear x0 x1 x2 x3 x4 x5 x6 x7 x8 x9 z0 z1 z2 z3 z4 z5 z6 z7 z8 z9
  obtain ⟨x0, x1, x2, x3, x4, x5, x6, x7, x8, x9⟩ := me_box (F_w9.at 4 rfl)
  obtain ⟨c0, c1, c2, c3, c4, c5, c6, c7, c8, c9⟩ := me_box (F_w9.at 9 rfl)
  have HT := Lib.hid (toMemory_c r0 l0 a0 cp0 w9.drew (HH0.out.below F_w9.below.drew (Nat.le_refl _)) l1_0 L2_0.out)
  have HF9 := Lib.hid F_w9
  have HK9 : Hid ((w9.cell? ⟨w3.heap.size, 0, none⟩ = some (.int .i64 r0.pits) ∧ w9.cell? ⟨w3.heap.size, 1, none⟩ = some (.int .i64 r0.seeds) ∧ w9.cell? ⟨w3.heap.size, 2, none⟩ = some (.bool r0.stores) ∧ w9.cell? ⟨w3.heap.size, 3, none⟩ = some (.bool r0.skip) ∧ w9.cell? ⟨w3.heap.size, 4, none⟩ = some (.bool r0.relay) ∧ w9.cell? ⟨w3.heap.size, 5, none⟩ = some (.bool r0.feed) ∧ w9.cell? ⟨w3.heap.size, 6, none⟩ = some (.bool r0.again) ∧ w9.cell? ⟨w3.heap.size, 7, none⟩ = some (.int .i64 r0.capture) ∧ w9.cell? ⟨w3.heap.size, 8, none⟩ = some (.int .i64 r0.slam) ∧ w9.cell? ⟨w3.heap.size, 9, none⟩ = some (.slice x0_a x0_m.length x0_k)) ∧ (w9.cell? ⟨w.heap.size, 0, none⟩ = some (.int .i64 r0.pits) ∧ w9.cell? ⟨w.heap.size, 1, none⟩ = some (.int .i64 r0.seeds) ∧ w9.cell? ⟨w.heap.size, 2, none⟩ = some (.bool r0.stores) ∧ w9.cell? ⟨w.heap.size, 3, none⟩ = some (.bool r0.skip) ∧ w9.cell? ⟨w.heap.size, 4, none⟩ = some (.bool r0.relay) ∧ w9.cell? ⟨w.heap.size, 5, none⟩ = some (.bool r0.feed) ∧ w9.cell? ⟨w.heap.size, 6, none⟩ = some (.bool r0.again) ∧ w9.cell? ⟨w.heap.size, 7, none⟩ = some (.int .i64 r0.capture) ∧ w9.cell? ⟨w.heap.size, 8, none⟩ = some (.int .i64 r0.slam) ∧ w9.cell? ⟨w.heap.size, 9, none⟩ = some (.slice a0 l0.length cp0))) := ⟨me_box (HF9.out.at 4 rfl), me_box (HF9.out.at 9 rfl)⟩
  go_upto_region 14 with fail
  refine heldH (S := fun V => (V.cell? ⟨w3.heap.size, 0, none⟩ = some (.int .i64 r0.pits) ∧ V.cell? ⟨w3.heap.size, 1, none⟩ = some (.int .i64 r0.seeds) ∧ V.cell? ⟨w3.heap.size, 2, none⟩ = some (.bool r0.stores) ∧ V.cell? ⟨w3.heap.size, 3, none⟩ = some (.bool r0.skip) ∧ V.cell? ⟨w3.heap.size, 4, none⟩ = some (.bool r0.relay) ∧ V.cell? ⟨w3.heap.size, 5, none⟩ = some (.bool r0.feed) ∧ V.cell? ⟨w3.heap.size, 6, none⟩ = some (.bool r0.again) ∧ V.cell? ⟨w3.heap.size, 7, none⟩ = some (.int .i64 r0.capture) ∧ V.cell? ⟨w3.heap.size, 8, none⟩ = some (.int .i64 r0.slam) ∧ V.cell? ⟨w3.heap.size, 9, none⟩ = some (.slice x0_a x0_m.length x0_k)) ∧ (V.cell? ⟨w.heap.size, 0, none⟩ = some (.int .i64 r0.pits) ∧ V.cell? ⟨w.heap.size, 1, none⟩ = some (.int .i64 r0.seeds) ∧ V.cell? ⟨w.heap.size, 2, none⟩ = some (.bool r0.stores) ∧ V.cell? ⟨w.heap.size, 3, none⟩ = some (.bool r0.skip) ∧ V.cell? ⟨w.heap.size, 4, none⟩ = some (.bool r0.relay) ∧ V.cell? ⟨w.heap.size, 5, none⟩ = some (.bool r0.feed) ∧ V.cell? ⟨w.heap.size, 6, none⟩ = some (.bool r0.again) ∧ V.cell? ⟨w.heap.size, 7, none⟩ = some (.int .i64 r0.capture) ∧ V.cell? ⟨w.heap.size, 8, none⟩ = some (.int .i64 r0.slam) ∧ V.cell? ⟨w.heap.size, 9, none⟩ = some (.slice a0 l0.length cp0))) (n := 5) (listed := #[false, false, false, false, false]) (by kernel_rfl) (by rfl) (by rfl) ?_ (fun hHeld => ?_)
  (focus ((try dsimp only); (first | done | ((first | exact HK11.out | exact HK10.out | exact HK9.out); done))))
  (refine takeH (i := 0) (v := ?_) (by decide +kernel) (by decide +kernel) (by kernel_rfl) (by rfl) (by exact fun _ _ _ h => h) (by rfl) ?_ (by assumption) ?_); rotate_left; (focus (intro w hSw; (try dsimp only at hSw); go_simp; (try with_reducible rfl); done)); (try simp only [Act.put, List.setIfInBounds_toArray, List.set_cons_zero, List.set_cons_succ])
  (refine takeH (i := 1) (v := ?_) (by decide +kernel) (by decide +kernel) (by kernel_rfl) (by rfl) (by exact fun _ _ _ h => h) (by rfl) ?_ (by assumption) ?_); rotate_left; (focus (intro w hSw; (try dsimp only at hSw); go_simp; (try with_reducible rfl); done)); (try simp only [Act.put, List.setIfInBounds_toArray, List.set_cons_zero, List.set_cons_succ])
  refine nextH (i := 2) (by decide +kernel) (by rfl) (by rfl) (fun K hK => ?_)
  (go_simp; go_at_call 27; (refine HT.out.mono ?_); (rintro e w10 ⟨mq, aq, kq, heq, rfl, hpq, hbq⟩); (have FQ := (HF9.out.drew.step hbq)); (have HK10 : Hid ((w10.cell? ⟨w3.heap.size, 0, none⟩ = some (.int .i64 r0.pits) ∧ w10.cell? ⟨w3.heap.size, 1, none⟩ = some (.int .i64 r0.seeds) ∧ w10.cell? ⟨w3.heap.size, 2, none⟩ = some (.bool r0.stores) ∧ w10.cell? ⟨w3.heap.size, 3, none⟩ = some (.bool r0.skip) ∧ w10.cell? ⟨w3.heap.size, 4, none⟩ = some (.bool r0.relay) ∧ w10.cell? ⟨w3.heap.size, 5, none⟩ = some (.bool r0.feed) ∧ w10.cell? ⟨w3.heap.size, 6, none⟩ = some (.bool r0.again) ∧ w10.cell? ⟨w3.heap.size, 7, none⟩ = some (.int .i64 r0.capture) ∧ w10.cell? ⟨w3.heap.size, 8, none⟩ = some (.int .i64 r0.slam) ∧ w10.cell? ⟨w3.heap.size, 9, none⟩ = some (.slice x0_a x0_m.length x0_k)) ∧ (w10.cell? ⟨w.heap.size, 0, none⟩ = some (.int .i64 r0.pits) ∧ w10.cell? ⟨w.heap.size, 1, none⟩ = some (.int .i64 r0.seeds) ∧ w10.cell? ⟨w.heap.size, 2, none⟩ = some (.bool r0.stores) ∧ w10.cell? ⟨w.heap.size, 3, none⟩ = some (.bool r0.skip) ∧ w10.cell? ⟨w.heap.size, 4, none⟩ = some (.bool r0.relay) ∧ w10.cell? ⟨w.heap.size, 5, none⟩ = some (.bool r0.feed) ∧ w10.cell? ⟨w.heap.size, 6, none⟩ = some (.bool r0.again) ∧ w10.cell? ⟨w.heap.size, 7, none⟩ = some (.int .i64 r0.capture) ∧ w10.cell? ⟨w.heap.size, 8, none⟩ = some (.int .i64 r0.slam) ∧ w10.cell? ⟨w.heap.size, 9, none⟩ = some (.slice a0 l0.length cp0))) := ⟨me_box (FQ.at 4 rfl), me_box (FQ.at 9 rfl)⟩))
  refine hK.out _ _ ?_ (fun hHeld' => ?_)
  (focus ((try dsimp only); (first | done | ((first | exact HK11.out | exact HK10.out | exact HK9.out); done))))
  clear hK K hHeld
  have hHeld := hHeld'
  clear hHeld'
  (try simp only [Act.put, List.setIfInBounds_toArray, List.set_cons_zero, List.set_cons_succ])
  refine nextH (i := 3) (by decide +kernel) (by rfl) (by rfl) (fun K hK => ?_)
  (go_simp; go_at_call 29; (refine (eqMemory_c r0 x0_m mq x0_a aq x0_k kq w10 (pcs_srows (FQ.at 5 rfl).1) (pcs_srows hpq) (HXE0.out.trans heq.symm) (by rw [HXN0.out]; exact l1_0) HXP0.out).mono ?_); (rintro e w11 ⟨rfl, hbr⟩); (have FR := FQ.step hbr); (have HK11 : Hid ((w11.cell? ⟨w3.heap.size, 0, none⟩ = some (.int .i64 r0.pits) ∧ w11.cell? ⟨w3.heap.size, 1, none⟩ = some (.int .i64 r0.seeds) ∧ w11.cell? ⟨w3.heap.size, 2, none⟩ = some (.bool r0.stores) ∧ w11.cell? ⟨w3.heap.size, 3, none⟩ = some (.bool r0.skip) ∧ w11.cell? ⟨w3.heap.size, 4, none⟩ = some (.bool r0.relay) ∧ w11.cell? ⟨w3.heap.size, 5, none⟩ = some (.bool r0.feed) ∧ w11.cell? ⟨w3.heap.size, 6, none⟩ = some (.bool r0.again) ∧ w11.cell? ⟨w3.heap.size, 7, none⟩ = some (.int .i64 r0.capture) ∧ w11.cell? ⟨w3.heap.size, 8, none⟩ = some (.int .i64 r0.slam) ∧ w11.cell? ⟨w3.heap.size, 9, none⟩ = some (.slice x0_a x0_m.length x0_k)) ∧ (w11.cell? ⟨w.heap.size, 0, none⟩ = some (.int .i64 r0.pits) ∧ w11.cell? ⟨w.heap.size, 1, none⟩ = some (.int .i64 r0.seeds) ∧ w11.cell? ⟨w.heap.size, 2, none⟩ = some (.bool r0.stores) ∧ w11.cell? ⟨w.heap.size, 3, none⟩ = some (.bool r0.skip) ∧ w11.cell? ⟨w.heap.size, 4, none⟩ = some (.bool r0.relay) ∧ w11.cell? ⟨w.heap.size, 5, none⟩ = some (.bool r0.feed) ∧ w11.cell? ⟨w.heap.size, 6, none⟩ = some (.bool r0.again) ∧ w11.cell? ⟨w.heap.size, 7, none⟩ = some (.int .i64 r0.capture) ∧ w11.cell? ⟨w.heap.size, 8, none⟩ = some (.int .i64 r0.slam) ∧ w11.cell? ⟨w.heap.size, 9, none⟩ = some (.slice a0 l0.length cp0))) := ⟨me_box (FR.at 4 rfl), me_box (FR.at 9 rfl)⟩); (have s_w10 : w9.heap.size ≤ w10.heap.size := hbq.size); (have s_w11 : w10.heap.size ≤ w11.heap.size := hbr.size))
  refine hK.out _ _ ?_ (fun hHeld' => ?_)
  (focus ((try dsimp only); (first | done | ((first | exact HK11.out | exact HK10.out | exact HK9.out); done))))
  clear hK K hHeld
  have hHeld := hHeld'
  clear hHeld'
  (try simp only [Act.put, List.setIfInBounds_toArray, List.set_cons_zero, List.set_cons_succ])
  (refine takeH (i := 4) (v := ?_) (by decide +kernel) (by decide +kernel) (by kernel_rfl) (by rfl) (by exact fun _ _ _ h => h) (by rfl) ?_ (by assumption) ?_); rotate_left; (focus (intro w hSw; (try dsimp only at hSw); go_simp; (try with_reducible rfl); done)); (try simp only [Act.put, List.setIfInBounds_toArray, List.set_cons_zero, List.set_cons_succ])
  refine wpAnyH_done (by decide +kernel) ?_ _
  have F_w11 := FR
  clear hHeld HK9 HK10 HK11 HT HF9 FQ FR F_w9 hpq hbq hbr x0 x1 x2 x3 x4 x5 x6 x7 x8 x9 c0 c1 c2 c3 c4 c5 c6 c7 c8 c9 heq
  obtain ⟨x0, x1, x2⟩ := (⟨F_w11.at 2 rfl 0 _ rfl, F_w11.at 2 rfl 1 _ rfl, F_w11.at 2 rfl 2 _ rfl⟩ : _ ∧ _ ∧ _)
  obtain ⟨c0, c1, c2⟩ := (⟨F_w11.at 8 rfl 0 _ rfl, F_w11.at 8 rfl 1 _ rfl, F_w11.at 8 rfl 2 _ rfl⟩ : _ ∧ _ ∧ _)
  have HT := Lib.hid (toPosition_c p1 pa1 sa1 pc1 sc1 w11.drew (HH1.out.below F_w11.below.drew (Nat.le_refl _)) l1_1 l2_1)
  have HF9 := Lib.hid F_w11
  have HK9 : Hid ((w11.cell? ⟨w5.heap.size, 0, none⟩ = some (.slice x1_a p1.pits.length x1_c) ∧ w11.cell? ⟨w5.heap.size, 1, none⟩ = some (.slice x1_s p1.stores.length x1_t) ∧ w11.cell? ⟨w5.heap.size, 2, none⟩ = some (.int .i64 p1.player)) ∧ (w11.cell? ⟨w.heap.size + 1, 0, none⟩ = some (.slice pa1 p1.pits.length pc1) ∧ w11.cell? ⟨w.heap.size + 1, 1, none⟩ = some (.slice sa1 p1.stores.length sc1) ∧ w11.cell? ⟨w.heap.size + 1, 2, none⟩ = some (.int .i64 p1.player))) := ⟨⟨HF9.out.at 2 rfl 0 _ rfl, HF9.out.at 2 rfl 1 _ rfl, HF9.out.at 2 rfl 2 _ rfl⟩, ⟨HF9.out.at 8 rfl 0 _ rfl, HF9.out.at 8 rfl 1 _ rfl, HF9.out.at 8 rfl 2 _ rfl⟩⟩
  go_upto_region 16 with fail
  refine heldH (S := fun V => (V.cell? ⟨w5.heap.size, 0, none⟩ = some (.slice x1_a p1.pits.length x1_c) ∧ V.cell? ⟨w5.heap.size, 1, none⟩ = some (.slice x1_s p1.stores.length x1_t) ∧ V.cell? ⟨w5.heap.size, 2, none⟩ = some (.int .i64 p1.player)) ∧ (V.cell? ⟨w.heap.size + 1, 0, none⟩ = some (.slice pa1 p1.pits.length pc1) ∧ V.cell? ⟨w.heap.size + 1, 1, none⟩ = some (.slice sa1 p1.stores.length sc1) ∧ V.cell? ⟨w.heap.size + 1, 2, none⟩ = some (.int .i64 p1.player))) (n := 5) (listed := #[false, false, false, false, false]) (by kernel_rfl) (by rfl) (by rfl) ?_ (fun hHeld => ?_)
  (focus ((try dsimp only); (first | done | ((first | exact HK11.out | exact HK10.out | exact HK9.out); done))))
  (refine takeH (i := 0) (v := ?_) (by decide +kernel) (by decide +kernel) (by kernel_rfl) (by rfl) (by exact fun _ _ _ h => h) (by rfl) ?_ (by assumption) ?_); rotate_left; (focus (intro w hSw; (try dsimp only at hSw); go_simp; (try with_reducible rfl); done)); (try simp only [Act.put, List.setIfInBounds_toArray, List.set_cons_zero, List.set_cons_succ])
  (refine takeH (i := 1) (v := ?_) (by decide +kernel) (by decide +kernel) (by kernel_rfl) (by rfl) (by exact fun _ _ _ h => h) (by rfl) ?_ (by assumption) ?_); rotate_left; (focus (intro w hSw; (try dsimp only at hSw); go_simp; (try with_reducible rfl); done)); (try simp only [Act.put, List.setIfInBounds_toArray, List.set_cons_zero, List.set_cons_succ])
  refine nextH (i := 2) (by decide +kernel) (by rfl) (by rfl) (fun K hK => ?_)
  (go_simp; go_at_call 14; (refine HT.out.mono ?_); (rintro e w12 ⟨mq, aq, kq, tq, rfl, hpq, hbq⟩); (have FQ := (HF9.out.drew.step hbq)); (have HK10 : Hid ((w12.cell? ⟨w5.heap.size, 0, none⟩ = some (.slice x1_a p1.pits.length x1_c) ∧ w12.cell? ⟨w5.heap.size, 1, none⟩ = some (.slice x1_s p1.stores.length x1_t) ∧ w12.cell? ⟨w5.heap.size, 2, none⟩ = some (.int .i64 p1.player)) ∧ (w12.cell? ⟨w.heap.size + 1, 0, none⟩ = some (.slice pa1 p1.pits.length pc1) ∧ w12.cell? ⟨w.heap.size + 1, 1, none⟩ = some (.slice sa1 p1.stores.length sc1) ∧ w12.cell? ⟨w.heap.size + 1, 2, none⟩ = some (.int .i64 p1.player))) := ⟨⟨FQ.at 2 rfl 0 _ rfl, FQ.at 2 rfl 1 _ rfl, FQ.at 2 rfl 2 _ rfl⟩, ⟨FQ.at 8 rfl 0 _ rfl, FQ.at 8 rfl 1 _ rfl, FQ.at 8 rfl 2 _ rfl⟩⟩))
  refine hK.out _ _ ?_ (fun hHeld' => ?_)
  (focus ((try dsimp only); (first | done | ((first | exact HK11.out | exact HK10.out | exact HK9.out); done))))
  clear hK K hHeld
  have hHeld := hHeld'
  clear hHeld'
  (try simp only [Act.put, List.setIfInBounds_toArray, List.set_cons_zero, List.set_cons_succ])
  refine nextH (i := 3) (by decide +kernel) (by rfl) (by rfl) (fun K hK => ?_)
  (go_simp; go_at_call 17; (refine (eqPosition_c p1 p1 x1_a x1_s mq kq x1_c x1_t aq tq w12 (FQ.at 3 rfl).1.row hpq.row mp1.1 mp1.2 mp1.1 mp1.2).mono ?_); (rintro e w13 ⟨rfl, hbr⟩); (have FR := FQ.step hbr); (have HK11 : Hid ((w13.cell? ⟨w5.heap.size, 0, none⟩ = some (.slice x1_a p1.pits.length x1_c) ∧ w13.cell? ⟨w5.heap.size, 1, none⟩ = some (.slice x1_s p1.stores.length x1_t) ∧ w13.cell? ⟨w5.heap.size, 2, none⟩ = some (.int .i64 p1.player)) ∧ (w13.cell? ⟨w.heap.size + 1, 0, none⟩ = some (.slice pa1 p1.pits.length pc1) ∧ w13.cell? ⟨w.heap.size + 1, 1, none⟩ = some (.slice sa1 p1.stores.length sc1) ∧ w13.cell? ⟨w.heap.size + 1, 2, none⟩ = some (.int .i64 p1.player))) := ⟨⟨FR.at 2 rfl 0 _ rfl, FR.at 2 rfl 1 _ rfl, FR.at 2 rfl 2 _ rfl⟩, ⟨FR.at 8 rfl 0 _ rfl, FR.at 8 rfl 1 _ rfl, FR.at 8 rfl 2 _ rfl⟩⟩); (have s_w12 : w11.heap.size ≤ w12.heap.size := hbq.size); (have s_w13 : w12.heap.size ≤ w13.heap.size := hbr.size))
  refine hK.out _ _ ?_ (fun hHeld' => ?_)
  (focus ((try dsimp only); (first | done | ((first | exact HK11.out | exact HK10.out | exact HK9.out); done))))
  clear hK K hHeld
  have hHeld := hHeld'
  clear hHeld'
  (try simp only [Act.put, List.setIfInBounds_toArray, List.set_cons_zero, List.set_cons_succ])
  (refine takeH (i := 4) (v := ?_) (by decide +kernel) (by decide +kernel) (by kernel_rfl) (by rfl) (by exact fun _ _ _ h => h) (by rfl) ?_ (by assumption) ?_); rotate_left; (focus (intro w hSw; (try dsimp only at hSw); go_simp; (try with_reducible rfl); done)); (try simp only [Act.put, List.setIfInBounds_toArray, List.set_cons_zero, List.set_cons_succ])
  refine wpAnyH_done (by decide +kernel) ?_ _
  have F_w13 := FR
  clear hHeld HK9 HK10 HK11 HT HF9 FQ FR F_w11 hpq hbq hbr x0 x1 x2 c0 c1 c2
  obtain ⟨x0, x1, x2, x3, x4, x5, x6, x7, x8, x9⟩ := me_box (F_w13.at 4 rfl)
  go_upto_region 19 with fail
  go_wp2_with fail
  refine (markMemory_c r0 _ _ x0_a x0_k x0_m (1) w13 (F_w13.at 5 rfl) (F_w13.le 5 rfl) (by rw [HXN0.out]; exact l1_0) (by omega) (by rw [HXU0.out]; omega)).mono ?_
  rintro e w14 ⟨rfl, _, hg⟩
  have F_w14 := F_w13.chgAt 5 hg (by omega) (by simp [List.eraseIdx]; omega)
  have s_w14 : w13.heap.size ≤ w14.heap.size := hg.size
  clear hg F_w13 x0 x1 x2 x3 x4 x5 x6 x7 x8 x9
  have HKB : Hid (1 ≤ 1 + mkSum szSl x0_m ∧ 1 + mkSum szSl x0_m ≤ 100000000) := by unfold Hid; rw [HXU0.out]; omega
  obtain ⟨x0, x1, x2⟩ := (⟨F_w14.at 2 rfl 0 _ rfl, F_w14.at 2 rfl 1 _ rfl, F_w14.at 2 rfl 2 _ rfl⟩ : _ ∧ _ ∧ _)
  go_upto_region 20 with fail
  go_wp2_with fail
  have hX := F_w14.at 3 rfl
  refine (markPosition_c _ _ p1 x1_a x1_s x1_c x1_t (1 + mkSum szSl x0_m) w14 hX.1 hX.2.1 hX.2.2 (by have := HKB.out; omega) (by have := HKB.out; omega)).mono ?_
  rintro e w15 ⟨rfl, hg⟩
  clear hX
  have F_w15 := F_w14.chgAt 3 hg (by omega) (by simp [List.eraseIdx]; omega)
  have s_w15 : w14.heap.size ≤ w15.heap.size := hg.size
  clear hg F_w14 x0 x1 x2
  have hkb_old := HKB.out
  clear HKB
  have HKB : Hid (1 ≤ 1 + mkSum szSl x0_m + p1.pits.length + p1.stores.length ∧ 1 + mkSum szSl x0_m + p1.pits.length + p1.stores.length ≤ 200000000) := by unfold Hid; skip; omega
  clear hkb_old
  have hkn : ¬ 1 + mkSum szSl x0_m + p1.pits.length + p1.stores.length < 0 := by have := HKB.out; omega
  clear HKB
  go_upto_region 21 with fail
  obtain ⟨x0, x1, x2, x3, x4, x5, x6, x7, x8, x9⟩ := me_box (F_w15.at 0 rfl)
  obtain ⟨z0, z1, z2, z3, z4, z5, z6, z7, z8, z9⟩ := me_box (F_w15.at 4 rfl)
  go_wp2_with fail
  refine (eqMemory_c yr mg m_w ag a_w kg k_w w15 (pcs_srows (F_w15.at 1 rfl).1) (pcs_srows (F_w15.at 5 rfl).1) (HEG.out.trans HE_w.out.symm) (by have := HNG.out; omega) HPG.out).mono ?_
  rintro e w16 ⟨rfl, hb⟩
  have F_w16 := F_w15.step hb
  have s_w16 : w15.heap.size ≤ w16.heap.size := hb.size
  clear hb F_w15
  clear x0 x1 x2 x3 x4 x5 x6 x7 x8 x9 z0 z1 z2 z3 z4 z5 z6 z7 z8 z9
  obtain ⟨x0, x1, x2, x3, x4, x5, x6, x7, x8, x9⟩ := me_box (F_w16.at 0 rfl)
  go_upto_region 24 with fail
  clear hkn
  go_wp2_with fail
  refine (markMemory_c yr _ _ ag kg mg 1 w16 (F_w16.at 1 rfl) (F_w16.le 1 rfl) (by have := HNG.out; omega) (by omega) HUG.out.2).mono ?_
  rintro e w17 ⟨rfl, hp, hg⟩
  have F_w17 := (F_w16.chgAt 1 hg (by omega) (by simp [List.eraseIdx]; omega)).add _ _ _ (PcsP.stab _ _ _) hp (Nat.le_trans (F_w16.le 1 rfl) hg.size)
  have s_w17 : w16.heap.size ≤ w17.heap.size := hg.size
  clear hg hp F_w16 x0 x1 x2 x3 x4 x5 x6 x7 x8 x9
  obtain ⟨x0, x1, x2, x3, x4, x5, x6, x7, x8, x9⟩ := me_box (F_w17.at 1 rfl)
  go_upto_region 26 with fail
  go_wp2_with fail
  refine (heldMemory_c yr ag kg mg 1 w17 (pcs_srows (F_w17.at 0 rfl).1) (by have := HNG.out; omega) (by omega) HUG.out.2).mono ?_
  rintro e w18 ⟨rfl, hb⟩
  have F_w18 := F_w17.step hb
  have s_w18 : w17.heap.size ≤ w18.heap.size := hb.size
  clear hb F_w17
  clear x0 x1 x2 x3 x4 x5 x6 x7 x8 x9
  have hqg : ¬ 1 + mkSum szSl mg < 0 := by have := HUG.out; omega
  have HQG := Lib.hid hqg
  skip
  go_upto_region 31 with fail
  clear hqg
  obtain ⟨LS, hLS, FL⟩ := Fr.listM F_w18
  have HLS := Lib.hid hLS
  have HFL := Lib.hid FL
  have HSKB : Hid (∀ V, Below w18.heap.size w18 V → (V.cell? ⟨w.heap.size, 0, none⟩ = some (.int .i64 r0.pits) ∧ V.cell? ⟨w.heap.size, 1, none⟩ = some (.int .i64 r0.seeds) ∧ V.cell? ⟨w.heap.size, 2, none⟩ = some (.bool r0.stores) ∧ V.cell? ⟨w.heap.size, 3, none⟩ = some (.bool r0.skip) ∧ V.cell? ⟨w.heap.size, 4, none⟩ = some (.bool r0.relay) ∧ V.cell? ⟨w.heap.size, 5, none⟩ = some (.bool r0.feed) ∧ V.cell? ⟨w.heap.size, 6, none⟩ = some (.bool r0.again) ∧ V.cell? ⟨w.heap.size, 7, none⟩ = some (.int .i64 r0.capture) ∧ V.cell? ⟨w.heap.size, 8, none⟩ = some (.int .i64 r0.slam) ∧ V.cell? ⟨w.heap.size, 9, none⟩ = some (.slice a0 l0.length cp0)) ∧ (V.cell? ⟨w.heap.size + 1, 0, none⟩ = some (.slice pa1 p1.pits.length pc1) ∧ V.cell? ⟨w.heap.size + 1, 1, none⟩ = some (.slice sa1 p1.stores.length sc1) ∧ V.cell? ⟨w.heap.size + 1, 2, none⟩ = some (.int .i64 p1.player))) := fun V hV => ⟨me_box ((F_w18.step hV).at 7 rfl), ⟨(F_w18.step hV).at 6 rfl 0 _ rfl, (F_w18.step hV).at 6 rfl 1 _ rfl, (F_w18.step hV).at 6 rfl 2 _ rfl⟩⟩
  have HFB := Lib.hid F_w18.below
  have hws_h := HFB.out.size
  clear hLS FL F_w18
  go_upto_region 31 with fail
  go_cut [21, 22] from 106 to 116 (fun sb sc wx => ∃ (nb0 : Nat) (m0 : List (Sl × SA)) (a0 : Option Addr) (k0 : Nat) (lo0 hi0 : Nat), sb = .pointer (some ⟨nb0, 0, none⟩) ∧ sc = .int .i64 yc ∧ m0.map Prod.fst = yx ∧ w18.heap.size ≤ nb0 ∧ w18.heap.size ≤ lo0 ∧ Fr w wx (⟨nb0, nb0 + 1, BoxP nb0 [.int .i64 yr.pits, .int .i64 yr.seeds, .bool yr.stores, .bool yr.skip, .bool yr.relay, .bool yr.feed, .bool yr.again, .int .i64 yr.capture, .int .i64 yr.slam, .slice a0 m0.length k0]⟩ :: ⟨lo0, hi0, PcsP lo0 hi0 (slRL.pcs a0 k0 m0)⟩ :: LS))
  case first =>
    refine heldH (S := fun V => (V.cell? ⟨w.heap.size, 0, none⟩ = some (.int .i64 r0.pits) ∧ V.cell? ⟨w.heap.size, 1, none⟩ = some (.int .i64 r0.seeds) ∧ V.cell? ⟨w.heap.size, 2, none⟩ = some (.bool r0.stores) ∧ V.cell? ⟨w.heap.size, 3, none⟩ = some (.bool r0.skip) ∧ V.cell? ⟨w.heap.size, 4, none⟩ = some (.bool r0.relay) ∧ V.cell? ⟨w.heap.size, 5, none⟩ = some (.bool r0.feed) ∧ V.cell? ⟨w.heap.size, 6, none⟩ = some (.bool r0.again) ∧ V.cell? ⟨w.heap.size, 7, none⟩ = some (.int .i64 r0.capture) ∧ V.cell? ⟨w.heap.size, 8, none⟩ = some (.int .i64 r0.slam) ∧ V.cell? ⟨w.heap.size, 9, none⟩ = some (.slice a0 l0.length cp0)) ∧ (V.cell? ⟨w.heap.size + 1, 0, none⟩ = some (.slice pa1 p1.pits.length pc1) ∧ V.cell? ⟨w.heap.size + 1, 1, none⟩ = some (.slice sa1 p1.stores.length sc1) ∧ V.cell? ⟨w.heap.size + 1, 2, none⟩ = some (.int .i64 p1.player))) (n := 14) (listed := #[false, false, false, false, false, false, false, false, false, false, false, false, false, false]) (by kernel_rfl) (by rfl) (by rfl) ?_ (fun hHeld => ?_)
    (focus ((try dsimp only); (first | done | (((refine HSKB.out _ ?_; first | (with_reducible exact G3.below) | (with_reducible exact G3.below.alloc G3.below.size _) | (with_reducible exact G2.below) | (with_reducible exact G2.below.alloc G2.below.size _) | (with_reducible exact G1.below) | (with_reducible exact G1.below.alloc G1.below.size _) | (with_reducible exact (Fr.start w18).drew.below) | (with_reducible exact ((Fr.start w18).allocF _ _).drew.below) | (with_reducible exact (Fr.start w18).below) | (repeat (first | (with_reducible exact G3.below) | ((with_reducible refine Below.setCell ?_ ?_ _); rotate_left; (simp <;> omega)))))); done))))
    (refine takeH (i := 0) (v := ?_) (by decide +kernel) (by decide +kernel) (by kernel_rfl) (by rfl) (by exact fun _ _ _ h => h) (by rfl) ?_ (by assumption) ?_); rotate_left; (focus (intro w hSw; (try dsimp only at hSw); go_simp; (try with_reducible rfl); done)); (try simp only [Act.put, List.setIfInBounds_toArray, List.set_cons_zero, List.set_cons_succ])
    (refine takeH (i := 2) (v := ?_) (by decide +kernel) (by decide +kernel) (by kernel_rfl) (by rfl) (by exact fun _ _ _ h => h) (by rfl) ?_ (by assumption) ?_); rotate_left; (focus (intro w hSw; (try dsimp only at hSw); go_simp; (try with_reducible rfl); done)); (try simp only [Act.put, List.setIfInBounds_toArray, List.set_cons_zero, List.set_cons_succ])
    (refine takeH (i := 4) (v := ?_) (by decide +kernel) (by decide +kernel) (by kernel_rfl) (by rfl) (by exact fun _ _ _ h => h) (by rfl) ?_ (by assumption) ?_); rotate_left; (focus (intro w hSw; (try dsimp only at hSw); go_simp; (try with_reducible rfl); done)); (try simp only [Act.put, List.setIfInBounds_toArray, List.set_cons_zero, List.set_cons_succ])
    (refine takeH (i := 5) (v := ?_) (by decide +kernel) (by decide +kernel) (by kernel_rfl) (by rfl) (by exact fun _ _ _ h => h) (by rfl) ?_ (by assumption) ?_); rotate_left; (focus (intro w hSw; (try dsimp only at hSw); go_simp; (try with_reducible rfl); done)); (try simp only [Act.put, List.setIfInBounds_toArray, List.set_cons_zero, List.set_cons_succ])
    (refine takeH (i := 6) (v := ?_) (by decide +kernel) (by decide +kernel) (by kernel_rfl) (by rfl) (by exact fun _ _ _ h => h) (by rfl) ?_ (by assumption) ?_); rotate_left; (focus (intro w hSw; (try dsimp only at hSw); go_simp; (try with_reducible rfl); done)); (try simp only [Act.put, List.setIfInBounds_toArray, List.set_cons_zero, List.set_cons_succ])
    refine bothH (i := 1) (j := 11) (by decide +kernel) (by rfl) (by rfl) (by rfl) (by rfl) (fun K hK => ?_) (fun K hK => ?_)
    (go_simp; go_at_call 27; (first | (refine (toMemory_c r0 l0 a0 cp0 _ (HH0.out.below (HFB.out.trans (Below.mono ((Fr.start w18).drew.below) HFB.out.size)) (Nat.le_refl _)) l1_0 L2_0.out).mono ?_) | (refine (toMemory_c r0 l0 a0 cp0 _ (HH0.out.below (HFB.out.trans (Below.mono (((Fr.start w18).allocF _ _).drew.below) HFB.out.size)) (Nat.le_refl _)) l1_0 L2_0.out).mono ?_)); (rintro e u1 ⟨m0, b0, d0, he0, rfl, hp0, hbk1⟩); (first | (have G1 := (Fr.start w18).drew.step hbk1) | (have G1 := ((Fr.start w18).allocF #[.int .i64 0, .int .i64 0, .bool false, .bool false, .bool false, .bool false, .bool false, .int .i64 0, .int .i64 0, .slice none 0 0] 52).drew.step hbk1)); (have P1 := G1.pcs hp0); (have z1 := hbk1.size); (try simp only [World.size_alloc, World.size_drew] at z1))
    refine hK.out _ _ ?_ (fun hHeld' => ?_)
    (focus ((try dsimp only); (first | done | (((refine HSKB.out _ ?_; first | (with_reducible exact G3.below) | (with_reducible exact G3.below.alloc G3.below.size _) | (with_reducible exact G2.below) | (with_reducible exact G2.below.alloc G2.below.size _) | (with_reducible exact G1.below) | (with_reducible exact G1.below.alloc G1.below.size _) | (with_reducible exact (Fr.start w18).drew.below) | (with_reducible exact ((Fr.start w18).allocF _ _).drew.below) | (with_reducible exact (Fr.start w18).below) | (repeat (first | (with_reducible exact G3.below) | ((with_reducible refine Below.setCell ?_ ?_ _); rotate_left; (simp <;> omega)))))); done))))
    clear hK K hHeld
    have hHeld := hHeld'
    clear hHeld'
    (try simp only [Act.put, List.setIfInBounds_toArray, List.set_cons_zero, List.set_cons_succ])
    refine bothH (i := 3) (j := 11) (by decide +kernel) (by rfl) (by rfl) (by rfl) (by rfl) (fun K hK => ?_) (fun K hK => ?_)
    (go_simp; go_at_call 14; (first | (refine (toPosition_c p1 pa1 sa1 pc1 sc1 _ (HH1.out.below (HFB.out.trans (Below.mono G1.below HFB.out.size)) (Nat.le_refl _)) l1_1 l2_1).mono ?_) | (refine (toPosition_c p1 pa1 sa1 pc1 sc1 _ (HH1.out.below (HFB.out.trans (Below.mono (G1.below.alloc G1.below.size _) HFB.out.size)) (Nat.le_refl _)) l1_1 l2_1).mono ?_)); (rintro e u2 ⟨b1, d1, t1, q1, rfl, hp1, hbk2⟩); (first | (have G2 := G1.step hbk2) | (have G2 := (G1.allocF #[.int .i64 0, .int .i64 0, .bool false, .bool false, .bool false, .bool false, .bool false, .int .i64 0, .int .i64 0, .slice none 0 0] 52).step hbk2)); (first | (have P2 := (P1.step hbk2).pos hp1) | (have P2 := ((P1.step (below_alloc1 _ _)).step hbk2).pos hp1)); (have z2 := hbk2.size); (try simp only [World.size_alloc, World.size_drew] at z2))
    refine hK.out _ _ ?_ (fun hHeld' => ?_)
    (focus ((try dsimp only); (first | done | (((refine HSKB.out _ ?_; first | (with_reducible exact G3.below) | (with_reducible exact G3.below.alloc G3.below.size _) | (with_reducible exact G2.below) | (with_reducible exact G2.below.alloc G2.below.size _) | (with_reducible exact G1.below) | (with_reducible exact G1.below.alloc G1.below.size _) | (with_reducible exact (Fr.start w18).drew.below) | (with_reducible exact ((Fr.start w18).allocF _ _).drew.below) | (with_reducible exact (Fr.start w18).below) | (repeat (first | (with_reducible exact G3.below) | ((with_reducible refine Below.setCell ?_ ?_ _); rotate_left; (simp <;> omega)))))); done))))
    clear hK K hHeld
    have hHeld := hHeld'
    clear hHeld'
    (try simp only [Act.put, List.setIfInBounds_toArray, List.set_cons_zero, List.set_cons_succ])
    refine bothH (i := 7) (j := 11) (by decide +kernel) (by rfl) (by rfl) (by rfl) (by rfl) (fun K hK => ?_) (fun K hK => ?_)
    (go_simp; go_at_call 35; (first | (refine (HI.out m0 b0 d0 b1 t1 d1 q1 _ (pcs_srows (P2.at 1 rfl).1) (by rw [(same_list he0 l1_0 L2_0.out).1]; exact l1_0) (same_list he0 l1_0 L2_0.out).2.1 he0 (P2.at 0 rfl).1.row l1_1 l2_1).mono ?_) | (refine (HI.out m0 b0 d0 b1 t1 d1 q1 _ (pcs_srows ((P2.step (below_alloc1 _ _)).at 1 rfl).1) (by rw [(same_list he0 l1_0 L2_0.out).1]; exact l1_0) (same_list he0 l1_0 L2_0.out).2.1 he0 ((P2.step (below_alloc1 _ _)).at 0 rfl).1.row l1_1 l2_1).mono ?_)); (rintro e uz ⟨mz, az, kz, hez, rfl, hpz, hbz⟩); (first | (have G3 := G2.step hbz) | (have G3 := (G2.allocF #[.int .i64 0, .int .i64 0, .bool false, .bool false, .bool false, .bool false, .bool false, .int .i64 0, .int .i64 0, .slice none 0 0] 52).step hbz)); (have zz := hbz.size); (try simp only [World.size_alloc, World.size_drew] at zz); (try (obtain ⟨bx, bf⟩ := G3.at 0 rfl; have x0 := bx 0 _ rfl; have x1 := bx 1 _ rfl; have x2 := bx 2 _ rfl; have x3 := bx 3 _ rfl; have x4 := bx 4 _ rfl; have x5 := bx 5 _ rfl; have x6 := bx 6 _ rfl; have x7 := bx 7 _ rfl; have x8 := bx 8 _ rfl; have x9 := bx 9 _ rfl; (try simp only [World.size_alloc, World.size_drew] at x0 x1 x2 x3 x4 x5 x6 x7 x8 x9 bf))))
    refine hK.out _ _ ?_ (fun hHeld' => ?_)
    (focus ((try dsimp only); (first | done | (((refine HSKB.out _ ?_; first | (with_reducible exact G3.below) | (with_reducible exact G3.below.alloc G3.below.size _) | (with_reducible exact G2.below) | (with_reducible exact G2.below.alloc G2.below.size _) | (with_reducible exact G1.below) | (with_reducible exact G1.below.alloc G1.below.size _) | (with_reducible exact (Fr.start w18).drew.below) | (with_reducible exact ((Fr.start w18).allocF _ _).drew.below) | (with_reducible exact (Fr.start w18).below) | (repeat (first | (with_reducible exact G3.below) | ((with_reducible refine Below.setCell ?_ ?_ _); rotate_left; (simp <;> omega)))))); done))))
    clear hK K hHeld
    have hHeld := hHeld'
    clear hHeld'
    (try simp only [Act.put, List.setIfInBounds_toArray, List.set_cons_zero, List.set_cons_succ])
    (refine takeH (i := 8) (v := ?_) (by decide +kernel) (by decide +kernel) (by kernel_rfl) (by rfl) (by exact fun _ _ _ h => h) (by rfl) ?_ (by assumption) ?_); rotate_left; (focus (intro w hSw; (try dsimp only at hSw); go_simp; (try with_reducible rfl); done)); (try simp only [Act.put, List.setIfInBounds_toArray, List.set_cons_zero, List.set_cons_succ])
    (refine takeH (i := 9) (v := ?_) (by decide +kernel) (by decide +kernel) (by kernel_rfl) (by rfl) (by exact fun _ _ _ h => h) (by rfl) ?_ (by assumption) ?_); rotate_left; (focus (intro w hSw; (try dsimp only at hSw); go_simp; (try with_reducible rfl); done)); (try simp only [Act.put, List.setIfInBounds_toArray, List.set_cons_zero, List.set_cons_succ])
    (refine takeH (i := 10) (v := ?_) (by decide +kernel) (by decide +kernel) (by kernel_rfl) (by rfl) (by exact fun _ _ _ h => h) (by rfl) ?_ (by assumption) ?_); rotate_left; (focus (intro w hSw; (try dsimp only at hSw); go_simp; (try with_reducible rfl); done)); (try simp only [Act.put, List.setIfInBounds_toArray, List.set_cons_zero, List.set_cons_succ])
    refine nextH (i := 11) (by decide +kernel) (by rfl) (by rfl) (fun K hK => ?_)
    go_simp
    (skip)
    refine hK.out _ _ ?_ (fun hHeld' => ?_)
    (focus ((try dsimp only); (first | done | (((refine HSKB.out _ ?_; first | (with_reducible exact G3.below) | (with_reducible exact G3.below.alloc G3.below.size _) | (with_reducible exact G2.below) | (with_reducible exact G2.below.alloc G2.below.size _) | (with_reducible exact G1.below) | (with_reducible exact G1.below.alloc G1.below.size _) | (with_reducible exact (Fr.start w18).drew.below) | (with_reducible exact ((Fr.start w18).allocF _ _).drew.below) | (with_reducible exact (Fr.start w18).below) | (repeat (first | (with_reducible exact G3.below) | ((with_reducible refine Below.setCell ?_ ?_ _); rotate_left; (simp <;> omega)))))); done))))
    clear hK K hHeld
    have hHeld := hHeld'
    clear hHeld'
    (try simp only [Act.put, List.setIfInBounds_toArray, List.set_cons_zero, List.set_cons_succ])
    refine nextH (i := 12) (by decide +kernel) (by rfl) (by rfl) (fun K hK => ?_)
    go_simp
    (skip)
    refine hK.out _ _ ?_ (fun hHeld' => ?_)
    (focus ((try dsimp only); (first | done | (((refine HSKB.out _ ?_; first | (with_reducible exact G3.below) | (with_reducible exact G3.below.alloc G3.below.size _) | (with_reducible exact G2.below) | (with_reducible exact G2.below.alloc G2.below.size _) | (with_reducible exact G1.below) | (with_reducible exact G1.below.alloc G1.below.size _) | (with_reducible exact (Fr.start w18).drew.below) | (with_reducible exact ((Fr.start w18).allocF _ _).drew.below) | (with_reducible exact (Fr.start w18).below) | (repeat (first | (with_reducible exact G3.below) | ((with_reducible refine Below.setCell ?_ ?_ _); rotate_left; (simp <;> omega)))))); done))))
    clear hK K hHeld
    have hHeld := hHeld'
    clear hHeld'
    (try simp only [Act.put, List.setIfInBounds_toArray, List.set_cons_zero, List.set_cons_succ])
    (refine takeH (i := 13) (v := ?_) (by decide +kernel) (by decide +kernel) (by kernel_rfl) (by rfl) (by exact fun _ _ _ h => h) (by rfl) ?_ (by assumption) ?_); rotate_left; (focus (intro w hSw; (try dsimp only at hSw); go_simp; (try with_reducible rfl); done)); (try simp only [Act.put, List.setIfInBounds_toArray, List.set_cons_zero, List.set_cons_succ])
    refine wpAnyH_done (by decide +kernel) ?_ _
    rotate_left 1
    go_simp
    (skip)
    refine hK.out _ _ ?_ (fun hHeld' => ?_)
    (focus ((try dsimp only); (first | done | (((refine HSKB.out _ ?_; first | (with_reducible exact G3.below) | (with_reducible exact G3.below.alloc G3.below.size _) | (with_reducible exact G2.below) | (with_reducible exact G2.below.alloc G2.below.size _) | (with_reducible exact G1.below) | (with_reducible exact G1.below.alloc G1.below.size _) | (with_reducible exact (Fr.start w18).drew.below) | (with_reducible exact ((Fr.start w18).allocF _ _).drew.below) | (with_reducible exact (Fr.start w18).below) | (repeat (first | (with_reducible exact G3.below) | ((with_reducible refine Below.setCell ?_ ?_ _); rotate_left; (simp <;> omega)))))); done))))
    clear hK K hHeld
    have hHeld := hHeld'
    clear hHeld'
    (try simp only [Act.put, List.setIfInBounds_toArray, List.set_cons_zero, List.set_cons_succ])
    refine nextH (i := 7) (by decide +kernel) (by rfl) (by rfl) (fun K hK => ?_)
    (go_simp; go_at_call 35; (first | (refine (HI.out m0 b0 d0 b1 t1 d1 q1 _ (pcs_srows (P2.at 1 rfl).1) (by rw [(same_list he0 l1_0 L2_0.out).1]; exact l1_0) (same_list he0 l1_0 L2_0.out).2.1 he0 (P2.at 0 rfl).1.row l1_1 l2_1).mono ?_) | (refine (HI.out m0 b0 d0 b1 t1 d1 q1 _ (pcs_srows ((P2.step (below_alloc1 _ _)).at 1 rfl).1) (by rw [(same_list he0 l1_0 L2_0.out).1]; exact l1_0) (same_list he0 l1_0 L2_0.out).2.1 he0 ((P2.step (below_alloc1 _ _)).at 0 rfl).1.row l1_1 l2_1).mono ?_)); (rintro e uz ⟨mz, az, kz, hez, rfl, hpz, hbz⟩); (first | (have G3 := G2.step hbz) | (have G3 := (G2.allocF #[.int .i64 0, .int .i64 0, .bool false, .bool false, .bool false, .bool false, .bool false, .int .i64 0, .int .i64 0, .slice none 0 0] 52).step hbz)); (have zz := hbz.size); (try simp only [World.size_alloc, World.size_drew] at zz); (try (obtain ⟨bx, bf⟩ := G3.at 0 rfl; have x0 := bx 0 _ rfl; have x1 := bx 1 _ rfl; have x2 := bx 2 _ rfl; have x3 := bx 3 _ rfl; have x4 := bx 4 _ rfl; have x5 := bx 5 _ rfl; have x6 := bx 6 _ rfl; have x7 := bx 7 _ rfl; have x8 := bx 8 _ rfl; have x9 := bx 9 _ rfl; (try simp only [World.size_alloc, World.size_drew] at x0 x1 x2 x3 x4 x5 x6 x7 x8 x9 bf))))
    refine hK.out _ _ ?_ (fun hHeld' => ?_)
    (focus ((try dsimp only); (first | done | (((refine HSKB.out _ ?_; first | (with_reducible exact G3.below) | (with_reducible exact G3.below.alloc G3.below.size _) | (with_reducible exact G2.below) | (with_reducible exact G2.below.alloc G2.below.size _) | (with_reducible exact G1.below) | (with_reducible exact G1.below.alloc G1.below.size _) | (with_reducible exact (Fr.start w18).drew.below) | (with_reducible exact ((Fr.start w18).allocF _ _).drew.below) | (with_reducible exact (Fr.start w18).below) | (repeat (first | (with_reducible exact G3.below) | ((with_reducible refine Below.setCell ?_ ?_ _); rotate_left; (simp <;> omega)))))); done))))
    clear hK K hHeld
    have hHeld := hHeld'
    clear hHeld'
    (try simp only [Act.put, List.setIfInBounds_toArray, List.set_cons_zero, List.set_cons_succ])
    (refine takeH (i := 8) (v := ?_) (by decide +kernel) (by decide +kernel) (by kernel_rfl) (by rfl) (by exact fun _ _ _ h => h) (by rfl) ?_ (by assumption) ?_); rotate_left; (focus (intro w hSw; (try dsimp only at hSw); go_simp; (try with_reducible rfl); done)); (try simp only [Act.put, List.setIfInBounds_toArray, List.set_cons_zero, List.set_cons_succ])
    (refine takeH (i := 9) (v := ?_) (by decide +kernel) (by decide +kernel) (by kernel_rfl) (by rfl) (by exact fun _ _ _ h => h) (by rfl) ?_ (by assumption) ?_); rotate_left; (focus (intro w hSw; (try dsimp only at hSw); go_simp; (try with_reducible rfl); done)); (try simp only [Act.put, List.setIfInBounds_toArray, List.set_cons_zero, List.set_cons_succ])
    (refine takeH (i := 10) (v := ?_) (by decide +kernel) (by decide +kernel) (by kernel_rfl) (by rfl) (by exact fun _ _ _ h => h) (by rfl) ?_ (by assumption) ?_); rotate_left; (focus (intro w hSw; (try dsimp only at hSw); go_simp; (try with_reducible rfl); done)); (try simp only [Act.put, List.setIfInBounds_toArray, List.set_cons_zero, List.set_cons_succ])
    refine nextH (i := 12) (by decide +kernel) (by rfl) (by rfl) (fun K hK => ?_)
    go_simp
    (skip)
    refine hK.out _ _ ?_ (fun hHeld' => ?_)
    (focus ((try dsimp only); (first | done | (((refine HSKB.out _ ?_; first | (with_reducible exact G3.below) | (with_reducible exact G3.below.alloc G3.below.size _) | (with_reducible exact G2.below) | (with_reducible exact G2.below.alloc G2.below.size _) | (with_reducible exact G1.below) | (with_reducible exact G1.below.alloc G1.below.size _) | (with_reducible exact (Fr.start w18).drew.below) | (with_reducible exact ((Fr.start w18).allocF _ _).drew.below) | (with_reducible exact (Fr.start w18).below) | (repeat (first | (with_reducible exact G3.below) | ((with_reducible refine Below.setCell ?_ ?_ _); rotate_left; (simp <;> omega)))))); done))))
    clear hK K hHeld
    have hHeld := hHeld'
    clear hHeld'
    (try simp only [Act.put, List.setIfInBounds_toArray, List.set_cons_zero, List.set_cons_succ])
    (refine takeH (i := 13) (v := ?_) (by decide +kernel) (by decide +kernel) (by kernel_rfl) (by rfl) (by exact fun _ _ _ h => h) (by rfl) ?_ (by assumption) ?_); rotate_left; (focus (intro w hSw; (try dsimp only at hSw); go_simp; (try with_reducible rfl); done)); (try simp only [Act.put, List.setIfInBounds_toArray, List.set_cons_zero, List.set_cons_succ])
    refine wpAnyH_done (by decide +kernel) ?_ _
    rotate_left 1
    go_simp
    (skip)
    refine hK.out _ _ ?_ (fun hHeld' => ?_)
    (focus ((try dsimp only); (first | done | (((refine HSKB.out _ ?_; first | (with_reducible exact G3.below) | (with_reducible exact G3.below.alloc G3.below.size _) | (with_reducible exact G2.below) | (with_reducible exact G2.below.alloc G2.below.size _) | (with_reducible exact G1.below) | (with_reducible exact G1.below.alloc G1.below.size _) | (with_reducible exact (Fr.start w18).drew.below) | (with_reducible exact ((Fr.start w18).allocF _ _).drew.below) | (with_reducible exact (Fr.start w18).below) | (repeat (first | (with_reducible exact G3.below) | ((with_reducible refine Below.setCell ?_ ?_ _); rotate_left; (simp <;> omega)))))); done))))
    clear hK K hHeld
    have hHeld := hHeld'
    clear hHeld'
    (try simp only [Act.put, List.setIfInBounds_toArray, List.set_cons_zero, List.set_cons_succ])
    refine nextH (i := 3) (by decide +kernel) (by rfl) (by rfl) (fun K hK => ?_)
    (go_simp; go_at_call 14; (first | (refine (toPosition_c p1 pa1 sa1 pc1 sc1 _ (HH1.out.below (HFB.out.trans (Below.mono G1.below HFB.out.size)) (Nat.le_refl _)) l1_1 l2_1).mono ?_) | (refine (toPosition_c p1 pa1 sa1 pc1 sc1 _ (HH1.out.below (HFB.out.trans (Below.mono (G1.below.alloc G1.below.size _) HFB.out.size)) (Nat.le_refl _)) l1_1 l2_1).mono ?_)); (rintro e u2 ⟨b1, d1, t1, q1, rfl, hp1, hbk2⟩); (first | (have G2 := G1.step hbk2) | (have G2 := (G1.allocF #[.int .i64 0, .int .i64 0, .bool false, .bool false, .bool false, .bool false, .bool false, .int .i64 0, .int .i64 0, .slice none 0 0] 52).step hbk2)); (first | (have P2 := (P1.step hbk2).pos hp1) | (have P2 := ((P1.step (below_alloc1 _ _)).step hbk2).pos hp1)); (have z2 := hbk2.size); (try simp only [World.size_alloc, World.size_drew] at z2))
    refine hK.out _ _ ?_ (fun hHeld' => ?_)
    (focus ((try dsimp only); (first | done | (((refine HSKB.out _ ?_; first | (with_reducible exact G3.below) | (with_reducible exact G3.below.alloc G3.below.size _) | (with_reducible exact G2.below) | (with_reducible exact G2.below.alloc G2.below.size _) | (with_reducible exact G1.below) | (with_reducible exact G1.below.alloc G1.below.size _) | (with_reducible exact (Fr.start w18).drew.below) | (with_reducible exact ((Fr.start w18).allocF _ _).drew.below) | (with_reducible exact (Fr.start w18).below) | (repeat (first | (with_reducible exact G3.below) | ((with_reducible refine Below.setCell ?_ ?_ _); rotate_left; (simp <;> omega)))))); done))))
    clear hK K hHeld
    have hHeld := hHeld'
    clear hHeld'
    (try simp only [Act.put, List.setIfInBounds_toArray, List.set_cons_zero, List.set_cons_succ])
    refine nextH (i := 7) (by decide +kernel) (by rfl) (by rfl) (fun K hK => ?_)
    (go_simp; go_at_call 35; (first | (refine (HI.out m0 b0 d0 b1 t1 d1 q1 _ (pcs_srows (P2.at 1 rfl).1) (by rw [(same_list he0 l1_0 L2_0.out).1]; exact l1_0) (same_list he0 l1_0 L2_0.out).2.1 he0 (P2.at 0 rfl).1.row l1_1 l2_1).mono ?_) | (refine (HI.out m0 b0 d0 b1 t1 d1 q1 _ (pcs_srows ((P2.step (below_alloc1 _ _)).at 1 rfl).1) (by rw [(same_list he0 l1_0 L2_0.out).1]; exact l1_0) (same_list he0 l1_0 L2_0.out).2.1 he0 ((P2.step (below_alloc1 _ _)).at 0 rfl).1.row l1_1 l2_1).mono ?_)); (rintro e uz ⟨mz, az, kz, hez, rfl, hpz, hbz⟩); (first | (have G3 := G2.step hbz) | (have G3 := (G2.allocF #[.int .i64 0, .int .i64 0, .bool false, .bool false, .bool false, .bool false, .bool false, .int .i64 0, .int .i64 0, .slice none 0 0] 52).step hbz)); (have zz := hbz.size); (try simp only [World.size_alloc, World.size_drew] at zz); (try (obtain ⟨bx, bf⟩ := G3.at 0 rfl; have x0 := bx 0 _ rfl; have x1 := bx 1 _ rfl; have x2 := bx 2 _ rfl; have x3 := bx 3 _ rfl; have x4 := bx 4 _ rfl; have x5 := bx 5 _ rfl; have x6 := bx 6 _ rfl; have x7 := bx 7 _ rfl; have x8 := bx 8 _ rfl; have x9 := bx 9 _ rfl; (try simp only [World.size_alloc, World.size_drew] at x0 x1 x2 x3 x4 x5 x6 x7 x8 x9 bf))))
    refine hK.out _ _ ?_ (fun hHeld' => ?_)
    (focus ((try dsimp only); (first | done | (((refine HSKB.out _ ?_; first | (with_reducible exact G3.below) | (with_reducible exact G3.below.alloc G3.below.size _) | (with_reducible exact G2.below) | (with_reducible exact G2.below.alloc G2.below.size _) | (with_reducible exact G1.below) | (with_reducible exact G1.below.alloc G1.below.size _) | (with_reducible exact (Fr.start w18).drew.below) | (with_reducible exact ((Fr.start w18).allocF _ _).drew.below) | (with_reducible exact (Fr.start w18).below) | (repeat (first | (with_reducible exact G3.below) | ((with_reducible refine Below.setCell ?_ ?_ _); rotate_left; (simp <;> omega)))))); done))))
    clear hK K hHeld
    have hHeld := hHeld'
    clear hHeld'
    (try simp only [Act.put, List.setIfInBounds_toArray, List.set_cons_zero, List.set_cons_succ])
    (refine takeH (i := 8) (v := ?_) (by decide +kernel) (by decide +kernel) (by kernel_rfl) (by rfl) (by exact fun _ _ _ h => h) (by rfl) ?_ (by assumption) ?_); rotate_left; (focus (intro w hSw; (try dsimp only at hSw); go_simp; (try with_reducible rfl); done)); (try simp only [Act.put, List.setIfInBounds_toArray, List.set_cons_zero, List.set_cons_succ])
    (refine takeH (i := 9) (v := ?_) (by decide +kernel) (by decide +kernel) (by kernel_rfl) (by rfl) (by exact fun _ _ _ h => h) (by rfl) ?_ (by assumption) ?_); rotate_left; (focus (intro w hSw; (try dsimp only at hSw); go_simp; (try with_reducible rfl); done)); (try simp only [Act.put, List.setIfInBounds_toArray, List.set_cons_zero, List.set_cons_succ])
    (refine takeH (i := 10) (v := ?_) (by decide +kernel) (by decide +kernel) (by kernel_rfl) (by rfl) (by exact fun _ _ _ h => h) (by rfl) ?_ (by assumption) ?_); rotate_left; (focus (intro w hSw; (try dsimp only at hSw); go_simp; (try with_reducible rfl); done)); (try simp only [Act.put, List.setIfInBounds_toArray, List.set_cons_zero, List.set_cons_succ])
    refine nextH (i := 12) (by decide +kernel) (by rfl) (by rfl) (fun K hK => ?_)
    go_simp
    (skip)
    refine hK.out _ _ ?_ (fun hHeld' => ?_)
    (focus ((try dsimp only); (first | done | (((refine HSKB.out _ ?_; first | (with_reducible exact G3.below) | (with_reducible exact G3.below.alloc G3.below.size _) | (with_reducible exact G2.below) | (with_reducible exact G2.below.alloc G2.below.size _) | (with_reducible exact G1.below) | (with_reducible exact G1.below.alloc G1.below.size _) | (with_reducible exact (Fr.start w18).drew.below) | (with_reducible exact ((Fr.start w18).allocF _ _).drew.below) | (with_reducible exact (Fr.start w18).below) | (repeat (first | (with_reducible exact G3.below) | ((with_reducible refine Below.setCell ?_ ?_ _); rotate_left; (simp <;> omega)))))); done))))
    clear hK K hHeld
    have hHeld := hHeld'
    clear hHeld'
    (try simp only [Act.put, List.setIfInBounds_toArray, List.set_cons_zero, List.set_cons_succ])
    (refine takeH (i := 13) (v := ?_) (by decide +kernel) (by decide +kernel) (by kernel_rfl) (by rfl) (by exact fun _ _ _ h => h) (by rfl) ?_ (by assumption) ?_); rotate_left; (focus (intro w hSw; (try dsimp only at hSw); go_simp; (try with_reducible rfl); done)); (try simp only [Act.put, List.setIfInBounds_toArray, List.set_cons_zero, List.set_cons_succ])
    refine wpAnyH_done (by decide +kernel) ?_ _
    rotate_left 1
    go_simp
    (skip)
    refine hK.out _ _ ?_ (fun hHeld' => ?_)
    (focus ((try dsimp only); (first | done | (((refine HSKB.out _ ?_; first | (with_reducible exact G3.below) | (with_reducible exact G3.below.alloc G3.below.size _) | (with_reducible exact G2.below) | (with_reducible exact G2.below.alloc G2.below.size _) | (with_reducible exact G1.below) | (with_reducible exact G1.below.alloc G1.below.size _) | (with_reducible exact (Fr.start w18).drew.below) | (with_reducible exact ((Fr.start w18).allocF _ _).drew.below) | (with_reducible exact (Fr.start w18).below) | (repeat (first | (with_reducible exact G3.below) | ((with_reducible refine Below.setCell ?_ ?_ _); rotate_left; (simp <;> omega)))))); done))))
    clear hK K hHeld
    have hHeld := hHeld'
    clear hHeld'
    (try simp only [Act.put, List.setIfInBounds_toArray, List.set_cons_zero, List.set_cons_succ])
    refine nextH (i := 1) (by decide +kernel) (by rfl) (by rfl) (fun K hK => ?_)
    (go_simp; go_at_call 27; (first | (refine (toMemory_c r0 l0 a0 cp0 _ (HH0.out.below (HFB.out.trans (Below.mono ((Fr.start w18).drew.below) HFB.out.size)) (Nat.le_refl _)) l1_0 L2_0.out).mono ?_) | (refine (toMemory_c r0 l0 a0 cp0 _ (HH0.out.below (HFB.out.trans (Below.mono (((Fr.start w18).allocF _ _).drew.below) HFB.out.size)) (Nat.le_refl _)) l1_0 L2_0.out).mono ?_)); (rintro e u1 ⟨m0, b0, d0, he0, rfl, hp0, hbk1⟩); (first | (have G1 := (Fr.start w18).drew.step hbk1) | (have G1 := ((Fr.start w18).allocF #[.int .i64 0, .int .i64 0, .bool false, .bool false, .bool false, .bool false, .bool false, .int .i64 0, .int .i64 0, .slice none 0 0] 52).drew.step hbk1)); (have P1 := G1.pcs hp0); (have z1 := hbk1.size); (try simp only [World.size_alloc, World.size_drew] at z1))
    refine hK.out _ _ ?_ (fun hHeld' => ?_)
    (focus ((try dsimp only); (first | done | (((refine HSKB.out _ ?_; first | (with_reducible exact G3.below) | (with_reducible exact G3.below.alloc G3.below.size _) | (with_reducible exact G2.below) | (with_reducible exact G2.below.alloc G2.below.size _) | (with_reducible exact G1.below) | (with_reducible exact G1.below.alloc G1.below.size _) | (with_reducible exact (Fr.start w18).drew.below) | (with_reducible exact ((Fr.start w18).allocF _ _).drew.below) | (with_reducible exact (Fr.start w18).below) | (repeat (first | (with_reducible exact G3.below) | ((with_reducible refine Below.setCell ?_ ?_ _); rotate_left; (simp <;> omega)))))); done))))
    clear hK K hHeld
    have hHeld := hHeld'
    clear hHeld'
    (try simp only [Act.put, List.setIfInBounds_toArray, List.set_cons_zero, List.set_cons_succ])
    refine nextH (i := 3) (by decide +kernel) (by rfl) (by rfl) (fun K hK => ?_)
    (go_simp; go_at_call 14; (first | (refine (toPosition_c p1 pa1 sa1 pc1 sc1 _ (HH1.out.below (HFB.out.trans (Below.mono G1.below HFB.out.size)) (Nat.le_refl _)) l1_1 l2_1).mono ?_) | (refine (toPosition_c p1 pa1 sa1 pc1 sc1 _ (HH1.out.below (HFB.out.trans (Below.mono (G1.below.alloc G1.below.size _) HFB.out.size)) (Nat.le_refl _)) l1_1 l2_1).mono ?_)); (rintro e u2 ⟨b1, d1, t1, q1, rfl, hp1, hbk2⟩); (first | (have G2 := G1.step hbk2) | (have G2 := (G1.allocF #[.int .i64 0, .int .i64 0, .bool false, .bool false, .bool false, .bool false, .bool false, .int .i64 0, .int .i64 0, .slice none 0 0] 52).step hbk2)); (first | (have P2 := (P1.step hbk2).pos hp1) | (have P2 := ((P1.step (below_alloc1 _ _)).step hbk2).pos hp1)); (have z2 := hbk2.size); (try simp only [World.size_alloc, World.size_drew] at z2))
    refine hK.out _ _ ?_ (fun hHeld' => ?_)
    (focus ((try dsimp only); (first | done | (((refine HSKB.out _ ?_; first | (with_reducible exact G3.below) | (with_reducible exact G3.below.alloc G3.below.size _) | (with_reducible exact G2.below) | (with_reducible exact G2.below.alloc G2.below.size _) | (with_reducible exact G1.below) | (with_reducible exact G1.below.alloc G1.below.size _) | (with_reducible exact (Fr.start w18).drew.below) | (with_reducible exact ((Fr.start w18).allocF _ _).drew.below) | (with_reducible exact (Fr.start w18).below) | (repeat (first | (with_reducible exact G3.below) | ((with_reducible refine Below.setCell ?_ ?_ _); rotate_left; (simp <;> omega)))))); done))))
    clear hK K hHeld
    have hHeld := hHeld'
    clear hHeld'
    (try simp only [Act.put, List.setIfInBounds_toArray, List.set_cons_zero, List.set_cons_succ])
    refine nextH (i := 7) (by decide +kernel) (by rfl) (by rfl) (fun K hK => ?_)
    (go_simp; go_at_call 35; (first | (refine (HI.out m0 b0 d0 b1 t1 d1 q1 _ (pcs_srows (P2.at 1 rfl).1) (by rw [(same_list he0 l1_0 L2_0.out).1]; exact l1_0) (same_list he0 l1_0 L2_0.out).2.1 he0 (P2.at 0 rfl).1.row l1_1 l2_1).mono ?_) | (refine (HI.out m0 b0 d0 b1 t1 d1 q1 _ (pcs_srows ((P2.step (below_alloc1 _ _)).at 1 rfl).1) (by rw [(same_list he0 l1_0 L2_0.out).1]; exact l1_0) (same_list he0 l1_0 L2_0.out).2.1 he0 ((P2.step (below_alloc1 _ _)).at 0 rfl).1.row l1_1 l2_1).mono ?_)); (rintro e uz ⟨mz, az, kz, hez, rfl, hpz, hbz⟩); (first | (have G3 := G2.step hbz) | (have G3 := (G2.allocF #[.int .i64 0, .int .i64 0, .bool false, .bool false, .bool false, .bool false, .bool false, .int .i64 0, .int .i64 0, .slice none 0 0] 52).step hbz)); (have zz := hbz.size); (try simp only [World.size_alloc, World.size_drew] at zz); (try (obtain ⟨bx, bf⟩ := G3.at 0 rfl; have x0 := bx 0 _ rfl; have x1 := bx 1 _ rfl; have x2 := bx 2 _ rfl; have x3 := bx 3 _ rfl; have x4 := bx 4 _ rfl; have x5 := bx 5 _ rfl; have x6 := bx 6 _ rfl; have x7 := bx 7 _ rfl; have x8 := bx 8 _ rfl; have x9 := bx 9 _ rfl; (try simp only [World.size_alloc, World.size_drew] at x0 x1 x2 x3 x4 x5 x6 x7 x8 x9 bf))))
    refine hK.out _ _ ?_ (fun hHeld' => ?_)
    (focus ((try dsimp only); (first | done | (((refine HSKB.out _ ?_; first | (with_reducible exact G3.below) | (with_reducible exact G3.below.alloc G3.below.size _) | (with_reducible exact G2.below) | (with_reducible exact G2.below.alloc G2.below.size _) | (with_reducible exact G1.below) | (with_reducible exact G1.below.alloc G1.below.size _) | (with_reducible exact (Fr.start w18).drew.below) | (with_reducible exact ((Fr.start w18).allocF _ _).drew.below) | (with_reducible exact (Fr.start w18).below) | (repeat (first | (with_reducible exact G3.below) | ((with_reducible refine Below.setCell ?_ ?_ _); rotate_left; (simp <;> omega)))))); done))))
    clear hK K hHeld
    have hHeld := hHeld'
    clear hHeld'
    (try simp only [Act.put, List.setIfInBounds_toArray, List.set_cons_zero, List.set_cons_succ])
    (refine takeH (i := 8) (v := ?_) (by decide +kernel) (by decide +kernel) (by kernel_rfl) (by rfl) (by exact fun _ _ _ h => h) (by rfl) ?_ (by assumption) ?_); rotate_left; (focus (intro w hSw; (try dsimp only at hSw); go_simp; (try with_reducible rfl); done)); (try simp only [Act.put, List.setIfInBounds_toArray, List.set_cons_zero, List.set_cons_succ])
    (refine takeH (i := 9) (v := ?_) (by decide +kernel) (by decide +kernel) (by kernel_rfl) (by rfl) (by exact fun _ _ _ h => h) (by rfl) ?_ (by assumption) ?_); rotate_left; (focus (intro w hSw; (try dsimp only at hSw); go_simp; (try with_reducible rfl); done)); (try simp only [Act.put, List.setIfInBounds_toArray, List.set_cons_zero, List.set_cons_succ])
    (refine takeH (i := 10) (v := ?_) (by decide +kernel) (by decide +kernel) (by kernel_rfl) (by rfl) (by exact fun _ _ _ h => h) (by rfl) ?_ (by assumption) ?_); rotate_left; (focus (intro w hSw; (try dsimp only at hSw); go_simp; (try with_reducible rfl); done)); (try simp only [Act.put, List.setIfInBounds_toArray, List.set_cons_zero, List.set_cons_succ])
    refine nextH (i := 12) (by decide +kernel) (by rfl) (by rfl) (fun K hK => ?_)
    go_simp
    (skip)
    refine hK.out _ _ ?_ (fun hHeld' => ?_)
    (focus ((try dsimp only); (first | done | (((refine HSKB.out _ ?_; first | (with_reducible exact G3.below) | (with_reducible exact G3.below.alloc G3.below.size _) | (with_reducible exact G2.below) | (with_reducible exact G2.below.alloc G2.below.size _) | (with_reducible exact G1.below) | (with_reducible exact G1.below.alloc G1.below.size _) | (with_reducible exact (Fr.start w18).drew.below) | (with_reducible exact ((Fr.start w18).allocF _ _).drew.below) | (with_reducible exact (Fr.start w18).below) | (repeat (first | (with_reducible exact G3.below) | ((with_reducible refine Below.setCell ?_ ?_ _); rotate_left; (simp <;> omega)))))); done))))
    clear hK K hHeld
    have hHeld := hHeld'
    clear hHeld'
    (try simp only [Act.put, List.setIfInBounds_toArray, List.set_cons_zero, List.set_cons_succ])
    (refine takeH (i := 13) (v := ?_) (by decide +kernel) (by decide +kernel) (by kernel_rfl) (by rfl) (by exact fun _ _ _ h => h) (by rfl) ?_ (by assumption) ?_); rotate_left; (focus (intro w hSw; (try dsimp only at hSw); go_simp; (try with_reducible rfl); done)); (try simp only [Act.put, List.setIfInBounds_toArray, List.set_cons_zero, List.set_cons_succ])
    refine wpAnyH_done (by decide +kernel) ?_ _
    all_goals (try (go_wp2_with fail))
    all_goals go_meet
    all_goals
      try simp only [World.size_alloc, World.size_drew] at hpz
      have FF := ((HFL.out.step G3.below).pcs hpz)
      first
      | (have KE := FF.stored10M (v0 := .int .i64 yr.pits) (v1 := .int .i64 yr.seeds) (v2 := .bool yr.stores) (v3 := .bool yr.skip) (v4 := .bool yr.relay) (v5 := .bool yr.feed) (v6 := .bool yr.again) (v7 := .int .i64 yr.capture) (v8 := .int .i64 yr.slam) (v9 := .slice az mz.length kz) bx bf (by omega) (by intro r hr; rcases List.mem_cons.1 hr with rfl | hr; exact Or.inr (by first | omega | (simp; done) | (simp; omega)); exact Or.inl (by have := (HFL.out.res r hr).1; omega)); with_reducible refine ⟨_, mz, az, kz, _, _, rfl, rfl, hez, ?_, ?_, KE⟩ <;> omega)
      | (have KL := FF.alloc10M (.int .i64 yr.pits) (.int .i64 yr.seeds) (.bool yr.stores) (.bool yr.skip) (.bool yr.relay) (.bool yr.feed) (.bool yr.again) (.int .i64 yr.capture) (.int .i64 yr.slam) (.slice az mz.length kz) 52; with_reducible refine ⟨_, mz, az, kz, _, _, rfl, rfl, hez, ?_, ?_, KL⟩ <;> omega)
  case rest =>
  obtain ⟨nb_h, m_h, a_h, k_h, lo_h, hi_h, rfl, rfl, he_h, g0_h, g1_h, F_h⟩ := hcut
  have hls := HLS.out
  subst hls
  have HE_h := Lib.hid he_h
  clear he_h HLS HFL HSKB HFB
  have y0_h : nb_h + 1 ≤ wc.heap.size := F_h.le 0 rfl
  have y1_h : hi_h ≤ wc.heap.size := F_h.le 1 rfl
  skip
  obtain ⟨x0, x1, x2, x3, x4, x5, x6, x7, x8, x9⟩ := me_box (F_h.at 0 rfl)
  obtain ⟨z0, z1, z2, z3, z4, z5, z6, z7, z8, z9⟩ := me_box (F_h.at 6 rfl)
  obtain ⟨nh, _, ph, _, _⟩ := few_list HF.out HE_h.out
  have HPH := Lib.hid ph
  clear ph
  go_upto_region 32 with fail
  go_wp2_with fail
  refine (eqMemory_c yr m_h m_w a_h a_w k_h k_w wc (pcs_srows (F_h.at 1 rfl).1) (pcs_srows (F_h.at 7 rfl).1) (HE_h.out.trans HE_w.out.symm) (by omega) HPH.out).mono ?_
  rintro e w19 ⟨rfl, hb⟩
  have F_w19 := F_h.step hb
  have s_w19 : wc.heap.size ≤ w19.heap.size := hb.size
  clear hb F_h
  clear x0 x1 x2 x3 x4 x5 x6 x7 x8 x9 z0 z1 z2 z3 z4 z5 z6 z7 z8 z9
  obtain ⟨x0, x1, x2, x3, x4, x5, x6, x7, x8, x9⟩ := me_box (F_w19.at 3 rfl)
  go_upto_region 35 with fail
  go_wp2_with fail
  refine (heldMemory_c yr ag kg mg 1 w19 (pcs_srows (F_w19.at 2 rfl).1) (by have := HNG.out; omega) (by omega) HUG.out.2).mono ?_
  rintro e w20 ⟨rfl, hb⟩
  have F_w20 := F_w19.step hb
  have s_w20 : w19.heap.size ≤ w20.heap.size := hb.size
  clear hb F_w19
  clear x0 x1 x2 x3 x4 x5 x6 x7 x8 x9
  have hqg := HQG.out
  go_wp2
  go_ret
  exact ⟨rfl, F_w20.below⟩

theorem store_few {r : R} {l : List (Sl × SA)} {p : P} {d v b : Int} (h : ∀ x ∈ l, x.1.pits.length ≤ 1048576) (h2 : p.pits.length ≤ 1048576) : Few (storeVP r (l.map Prod.fst) p d v b).1.2 := by
  have h0 : Few ([] : List Sl) := ⟨by simp, fun x hx => by cases hx⟩
  have hm : ∀ z ∈ l.map Prod.fst, z.pits.length ≤ 1048576 := fun z hz => by
    obtain ⟨u, hu, rfl⟩ := List.mem_map.1 hz
    exact h u hu
  unfold storeVP
  split
  · exact h0
  · rename_i hk
    split
    · exact h0
    · split
      · exact h0
      · have := (meOk_parts (by simpa using hk)).2.1
        refine ⟨by rw [storeL_len]; omega, fun z hz => ?_⟩
        unfold storeL at hz
        split at hz
        · exact hm z hz
        · rcases List.mem_or_eq_of_mem_set hz with hz | rfl
          · exact hm z hz
          · exact h2
theorem walked (r0 : R) (l0 : List (Sl × SA)) (a0 : Option Addr) (cp0 : Nat) (p1 : P) (pa1 sa1 : Option Addr) (pc1 sc1 : Nat) (d v b : Int) (w : World) (h0 : SRows w a0 l0) (hl0 : l0.length ≤ maxLen) (hm0 : ∀ x ∈ l0, x.1.pits.length ≤ maxLen) (h1 : PRow w p1 pa1 sa1) (hl1 : p1.pits.length ≤ maxLen) (hm1 : p1.stores.length ≤ maxLen) :
    Calls Try.prog 7 #[meVal r0 a0 l0.length cp0, p1.val pa1 pc1 sa1 sc1, .int .i64 d, .int .i64 v, .int .i64 b] w fun e w' => e = .returned (.bool true) ∧ Below w.heap.size w w' :=
  walk r0 l0 a0 cp0 p1 pa1 sa1 pc1 sc1 d v b w h0 hl0 hm0 h1 hl1 hm1 (storeVP r0 (l0.map Prod.fst) p1 d v b) (fun h h' => store_few h h')
    (fun m b0 d0 b1 t1 d1 u1 w q1 q2 q3 q4 q5 q6 q7 => by have hk := sStoreValue_c r0 m b0 d0 p1 b1 t1 d1 u1 d v b w q1 q2 q3 q5 q6 q7; rw [q4] at hk; exact hk)
    (fun m b0 d0 b1 t1 d1 u1 w q1 q2 q3 q4 q5 q6 q7 => by have hk := iStoreValue_c r0 m b0 d0 p1 b1 t1 d1 u1 d v b w q1 q2 q3 q5 q6 q7; rw [q4] at hk; exact hk)

set_option maxRecDepth 100000 in
theorem contract (H : Type) (enc : TypeId × Value → H) (W : World) (base : Nat) (args : Array Value) (ds gs : List (DataW H)) (before : List MemPlace)
    (hval : ∀ (j : Nat) t v, Try.f7.params[j]? = some t → args[j]? = some v → Value.okWide Try.prog W .any base t v)
    (hW : DataW.Whole enc Try.prog Try.f7.params.toList Rows.fnExactStoreValueSpec.vars false W args.toList ds gs before) :
    Calls Try.prog 7 args W fun e W' => ∃ v, e = .returned v ∧ Rows.fnExactStoreValueSpec.post enc Try.prog Try.f7 false true false false W args v W' := by
  have hW' := hW
  obtain ⟨p, q, hA0, hV, rfl, hfz, hnd⟩ := hW
  have hA : DataW.TrodAll enc Try.prog W 0 (fun _ => true) true Try.f7.params.toList args.toList ds p := hA0
  rw [Try.params7] at hA hval
  obtain ⟨v0, vs0, d0, ds0, p0, q0, hargs, rfl, rfl, h0, r0⟩ := trodAll_cons hA
  obtain ⟨v1, vs1, d1, ds1, p1, q1, rfl, rfl, rfl, h1, r1⟩ := trodAll_cons r0
  obtain ⟨v2, vs2, d2, ds2, p2, q2, rfl, rfl, rfl, h2, r2⟩ := trodAll_cons r1
  obtain ⟨v3, vs3, d3, ds3, p3, q3, rfl, rfl, rfl, h3, r3⟩ := trodAll_cons r2
  obtain ⟨v4, vs4, d4, ds4, p4, q4, rfl, rfl, rfl, h4, r4⟩ := trodAll_cons r3
  obtain ⟨rfl, rfl, rfl⟩ := trodAll_nil r4
  obtain rfl : args = #[v0, v1, v2, v3, v4] := by cases args; simp_all
  obtain ⟨mr0, sl0, sa0, sc0, rfl, w0⟩ := arg_memory (hval 0 48 v0 rfl rfl) h0
  obtain ⟨p1p, pa1, pc1, sa1, sc1, rfl, w1⟩ := arg_pos (hval 1 26 v1 rfl rfl) h1
  obtain ⟨a2, rfl, _, _, w2⟩ := open_int Try.underlying2 (hval 2 2 v2 rfl rfl) h2
  obtain ⟨a3, rfl, _, _, w3⟩ := open_int Try.underlying2 (hval 3 2 v3 rfl rfl) h3
  obtain ⟨a4, rfl, _, _, w4⟩ := open_int Try.underlying2 (hval 4 2 v4 rfl rfl) h4
  refine (walked mr0 sl0 sa0 sc0 p1p pa1 sa1 pc1 sc1 a2 a3 a4 W w0.1 w0.2.1 w0.2.2 w1.1 w1.2.1 w1.2.2.1).mono fun e W' ⟨he, hb⟩ => ?_
  subst he
  exact ⟨_, rfl, law_post hW' hb rfl rfl (by kernel_rfl) rfl⟩

set_option maxRecDepth 100000 in
theorem lifted (os : Os) (started : os.Started) (H : Type) (enc : TypeId × Value → H) :
    ReturnsInHanded {} Try.checked os 7 .any (Rows.fnExactStoreValueSpec.pre6 enc Try.prog Try.f7 Rows.fnExactStoreValueRow.domain false) (Rows.fnExactStoreValueSpec.post enc Try.prog Try.f7 false true false false) := by
  refine returnsInHanded_of_change (C := Try.checked) (s := Rows.fnExactStoreValueSpec) own started (by kernel_rfl) Try.func7
    (ChangeSpec.witness6 (enc := enc) (C := Try.checked) (s := Rows.fnExactStoreValueSpec) false ⟨#[], #[.agg #[.int .i64 0, .int .i64 0, .bool false, .bool false, .bool false, .bool false, .bool false, .int .i64 0, .int .i64 0, .slice none 0 0], .agg #[.slice none 0 0, .slice none 0 0, .int .i64 0], .int .i64 0, .int .i64 0, .int .i64 0], []⟩ 8 (by kernel_rfl) (by kernel_rfl) (by kernel_rfl) (by kernel_rfl)) ?_
  intro W base args ds gs before hval hW _ _
  exact contract H enc W base args ds gs before hval hW

theorem proved : Rows.FnExactStoreValueSaid :=
  OpenClaim.holds_of_wide 7 Try.f7 rfl rfl rfl rfl rfl rfl rfl ⟨rfl, rfl, rfl, rfl, rfl⟩ rfl rfl rfl rfl rfl (by kernel_rfl) Try.func7 (by kernel_rfl)
    (of_decide_eq_true (by kernel_rfl)) (by unfold Func.isWrapper; first | (rw [if_pos (by decide +kernel)]; kernel_rfl) | (rw [if_neg (by decide +kernel)]; exact ⟨rfl, rfl⟩))
    (fun os started H enc _ => lifted os started H enc)
end Go.Proofs.Ytbjgigdkbjabaaa.lStoreValue
