/- The law FnExactSameDesk returns true for every argument, and every argument reads afterwards as before. No conditions. -/
import Derived.Test.YteabheocbkcmnaaDesk
import Derived.Test.YteabheocbkcmnaaHeldM
import Derived.Deep.CutRange
namespace Go.Proofs.Yteabheocbkcmnaa.lSameDesk
set_option linter.unusedSimpArgs false
set_option linter.unusedVariables false
set_option linter.unnecessarySimpa false
open Go.RowKit Go.ChangeShapes Go.WideShapes Go.ChangeAt Go.Joins
open Go.ChangeMaps (open_string)

theorem boxP_range2 {w : World} {b : Nat} {cs : List Value} (h : BoxP b cs w) : w.rangeAt b 0 cs := fun j v hv => by rw [Nat.zero_add]; exact h j v hv
theorem there_alloc2 (w : World) (Z : Array Value) (T : TypeId) {n : Nat} (hn : Z.toList.length = n) : (w.alloc (.cells Z T)).there w.heap.size 0 n := hn ▸ (Bx.alloc w Z T rfl).there
theorem range_below {w w' : World} {B b : Nat} {cs : List Value} (h : w.rangeAt b 0 cs) (hb : Below B w w') (hB : b < B) : w'.rangeAt b 0 cs := fun j v hv => (hb.cell (p := ⟨b, 0 + j, none⟩) hB).trans (h j v hv)
theorem box_below2 {w w' : World} {b : Nat} {cs : List Value} (h : BoxP b cs w) (hb : Below w.heap.size w w') : BoxP b cs w' := fun j v hv => (hb.cell (p := ⟨b, j, none⟩) (World.block_lt_of_cell? w _ (h j v hv))).trans (h j v hv)
set_option maxRecDepth 100000 in
set_option maxHeartbeats 16000000 in
theorem walk (x y : Dk) (k l : DA) (w : World) (hx : DRow w x k) (hy : DRow w y l) (m1 : x.Len maxLen) (m2 : y.Len maxLen) :
    Calls Try.prog 10 #[x.val k, y.val l] w fun e w' => e = .returned (.bool true) ∧ Below w.heap.size w w' := by
  have X0 : BoxP w.heap.size (x.cells k).toList ((w.alloc (.cells (x.cells k) 81)).alloc (.cells (y.cells l) 81)) := ((Bx.alloc w (x.cells k) 81 rfl).allocO (by simp) (y.cells l) 81).box
  have Y0 : BoxP (w.heap.size + 1) (y.cells l).toList ((w.alloc (.cells (x.cells k) 81)).alloc (.cells (y.cells l) 81)) := (Bx.alloc (w.alloc (.cells (x.cells k) 81)) (y.cells l) 81 (by simp)).box
  have RX := Lib.hid (boxP_range2 X0)
  have RY := Lib.hid (boxP_range2 Y0)
  have HW0 : Below w.heap.size w ((w.alloc (.cells (x.cells k) 81)).alloc (.cells (y.cells l) 81)) := below_alloc2 _ _ _
  have HW := Lib.hid HW0
  clear X0 Y0 HW0
  go_enter Try.func10, Try.ntmps10
  go_wp2_with (refine wpList_load_mid rfl 81 _ rfl _ _ rfl _ _ RX.out Try.underlying81 rfl (by kernel_rfl) ?_)
  refine (szDesk_c x k _ _ (by omega) (by omega) m1).mono ?_
  rintro e w1 ⟨rfl, hb1⟩
  have B1 := Lib.hid (below_next HW.out hb1)
  have RX1 := Lib.hid (range_below RX.out hb1 (by simp <;> omega))
  have RY1 := Lib.hid (range_below RY.out hb1 (by simp <;> omega))
  have z1 := hb1.size
  simp only [World.size_alloc] at z1
  clear hb1 RX RY HW
  by_cases hl1 : szD 1048576 x < 0
  · go_wp2_with fail
    go_ret
    exact ⟨rfl, B1.out⟩
  obtain ⟨l1, l3, l4⟩ := szD_len hl1 (by omega) (by omega)
  go_wp2_with (refine wpList_load_mid rfl 81 _ rfl _ _ rfl _ _ RY1.out Try.underlying81 rfl (by kernel_rfl) ?_)
  refine (szDesk_c y l _ _ l3 l4 m2).mono ?_
  rintro e w2 ⟨rfl, hb2⟩
  have B2 := Lib.hid (below_next B1.out hb2)
  have RX2 := Lib.hid (range_below RX1.out hb2 (by omega))
  have RY2 := Lib.hid (range_below RY1.out hb2 (by omega))
  have z2 : w.heap.size + 1 + 1 ≤ w2.heap.size := by have := hb2.size; omega
  clear hb2 RX1 RY1 B1
  by_cases hl2 : szD (szD 1048576 x) y < 0
  · go_wp2_with fail
    go_ret
    exact ⟨rfl, B2.out⟩
  obtain ⟨l5, l7, l8⟩ := szD_len hl2 l3 l4
  have HB : Hid (∀ W, Below w2.heap.size w2 W → (W.rangeAt w.heap.size 0 (x.cells k).toList ∧ W.rangeAt (w.heap.size + 1) 0 (y.cells l).toList)) := fun W hW => ⟨range_below RX2.out hW (by omega), range_below RY2.out hW (by omega)⟩
  have KX : Hid (∀ W : World, (W.rangeAt w.heap.size 0 (x.cells k).toList ∧ W.rangeAt (w.heap.size + 1) 0 (y.cells l).toList) → W.rangeAt w.heap.size 0 (x.cells k).toList) := fun W h => h.1
  have KY : Hid (∀ W : World, (W.rangeAt w.heap.size 0 (x.cells k).toList ∧ W.rangeAt (w.heap.size + 1) 0 (y.cells l).toList) → W.rangeAt (w.heap.size + 1) 0 (y.cells l).toList) := fun W h => h.2
  clear RX2 RY2
  go_upto_region 8 with fail
  go_cut [2, 3, 6] from 0 to 44 (fun s2 s3 s6 wx => s2 = .pointer (some ⟨w.heap.size, 0, none⟩) ∧ s3 = .pointer (some ⟨w.heap.size + 1, 0, none⟩) ∧ s6 = .bool (decide (x = y)) ∧ (wx.rangeAt w.heap.size 0 (x.cells k).toList ∧ wx.rangeAt (w.heap.size + 1) 0 (y.cells l).toList) ∧ Below w.heap.size w wx ∧ w.heap.size + 1 + 1 ≤ wx.heap.size)
  case first =>
    refine heldH (S := fun W => W.rangeAt w.heap.size 0 (x.cells k).toList ∧ W.rangeAt (w.heap.size + 1) 0 (y.cells l).toList) (n := 6) (listed := #[false, false, false, false, false, false]) (by kernel_rfl) (by rfl) (by rfl) ?_ (fun hHeld => ?_)
    (focus ((try dsimp only); (first | done | (((refine HB.out _ ?_; first | (with_reducible exact HB5.out) | (with_reducible exact HB4.out) | (with_reducible exact HB3.out) | exact (Below.refl _ _).drew)); done))))
    (refine takeM (i := 0) 81 _ (by decide +kernel) (by decide +kernel) (by kernel_rfl) (by rfl) (by exact fun _ _ _ h => h) (by rfl) rfl rfl KX.out Try.underlying81 rfl (by kernel_rfl) (by assumption) ?_); (try simp only [Act.put, List.setIfInBounds_toArray, List.set_cons_zero, List.set_cons_succ])
    (refine takeM (i := 2) 81 _ (by decide +kernel) (by decide +kernel) (by kernel_rfl) (by rfl) (by exact fun _ _ _ h => h) (by rfl) rfl rfl KY.out Try.underlying81 rfl (by kernel_rfl) (by assumption) ?_); (try simp only [Act.put, List.setIfInBounds_toArray, List.set_cons_zero, List.set_cons_succ])
    refine nextH (i := 1) (by decide +kernel) (by rfl) (by rfl) (fun K hK => ?_)
    go_simp
    (first | (go_at_call 50; (refine (sSameDesk_c x y k3 k4 _ (ho3.row.below hb4 (Nat.le_refl _)) ho4.row m1 m2).mono ?_); (rintro e w5 ⟨rfl, hb5⟩); (have HB5 := Lib.hid (below_next HB4.out hb5))) | (go_at_call 51; (refine (toDesk_c y l _ (hy.below (below_next B2.out HB3.out) (Nat.le_refl _)) l5).mono ?_); (rintro e w4 ⟨k4, rfl, ho4, hb4⟩); (have HB4 := Lib.hid (below_next HB3.out hb4))) | (go_at_call 51; (refine (toDesk_c x k _ (hx.below B2.out.drew (Nat.le_refl _)) l1).mono ?_); (rintro e w3 ⟨k3, rfl, ho3, hb3⟩); (have HB3 : Hid (Below w2.heap.size w2 w3) := below_next (Below.refl _ _).drew hb3)) | skip)
    refine hK.out _ _ ?_ (fun hHeld' => ?_)
    (focus ((try dsimp only); (first | done | (((refine HB.out _ ?_; first | (with_reducible exact HB5.out) | (with_reducible exact HB4.out) | (with_reducible exact HB3.out) | exact (Below.refl _ _).drew)); done))))
    clear hK K hHeld
    have hHeld := hHeld'
    clear hHeld'
    (try simp only [Act.put, List.setIfInBounds_toArray, List.set_cons_zero, List.set_cons_succ])
    refine nextH (i := 3) (by decide +kernel) (by rfl) (by rfl) (fun K hK => ?_)
    go_simp
    (first | (go_at_call 50; (refine (sSameDesk_c x y k3 k4 _ (ho3.row.below hb4 (Nat.le_refl _)) ho4.row m1 m2).mono ?_); (rintro e w5 ⟨rfl, hb5⟩); (have HB5 := Lib.hid (below_next HB4.out hb5))) | (go_at_call 51; (refine (toDesk_c y l _ (hy.below (below_next B2.out HB3.out) (Nat.le_refl _)) l5).mono ?_); (rintro e w4 ⟨k4, rfl, ho4, hb4⟩); (have HB4 := Lib.hid (below_next HB3.out hb4))) | (go_at_call 51; (refine (toDesk_c x k _ (hx.below B2.out.drew (Nat.le_refl _)) l1).mono ?_); (rintro e w3 ⟨k3, rfl, ho3, hb3⟩); (have HB3 : Hid (Below w2.heap.size w2 w3) := below_next (Below.refl _ _).drew hb3)) | skip)
    refine hK.out _ _ ?_ (fun hHeld' => ?_)
    (focus ((try dsimp only); (first | done | (((refine HB.out _ ?_; first | (with_reducible exact HB5.out) | (with_reducible exact HB4.out) | (with_reducible exact HB3.out) | exact (Below.refl _ _).drew)); done))))
    clear hK K hHeld
    have hHeld := hHeld'
    clear hHeld'
    (try simp only [Act.put, List.setIfInBounds_toArray, List.set_cons_zero, List.set_cons_succ])
    refine nextH (i := 4) (by decide +kernel) (by rfl) (by rfl) (fun K hK => ?_)
    go_simp
    (first | (go_at_call 50; (refine (sSameDesk_c x y k3 k4 _ (ho3.row.below hb4 (Nat.le_refl _)) ho4.row m1 m2).mono ?_); (rintro e w5 ⟨rfl, hb5⟩); (have HB5 := Lib.hid (below_next HB4.out hb5))) | (go_at_call 51; (refine (toDesk_c y l _ (hy.below (below_next B2.out HB3.out) (Nat.le_refl _)) l5).mono ?_); (rintro e w4 ⟨k4, rfl, ho4, hb4⟩); (have HB4 := Lib.hid (below_next HB3.out hb4))) | (go_at_call 51; (refine (toDesk_c x k _ (hx.below B2.out.drew (Nat.le_refl _)) l1).mono ?_); (rintro e w3 ⟨k3, rfl, ho3, hb3⟩); (have HB3 : Hid (Below w2.heap.size w2 w3) := below_next (Below.refl _ _).drew hb3)) | skip)
    refine hK.out _ _ ?_ (fun hHeld' => ?_)
    (focus ((try dsimp only); (first | done | (((refine HB.out _ ?_; first | (with_reducible exact HB5.out) | (with_reducible exact HB4.out) | (with_reducible exact HB3.out) | exact (Below.refl _ _).drew)); done))))
    clear hK K hHeld
    have hHeld := hHeld'
    clear hHeld'
    (try simp only [Act.put, List.setIfInBounds_toArray, List.set_cons_zero, List.set_cons_succ])
    (refine takeH (i := 5) (v := ?_) (by decide +kernel) (by decide +kernel) (by kernel_rfl) (by rfl) (by exact fun _ _ _ h => h) (by rfl) ?_ (by assumption) ?_); rotate_left; (focus (intro w hSw; (try dsimp only at hSw); go_simp; (try with_reducible rfl); done)); (try simp only [Act.put, List.setIfInBounds_toArray, List.set_cons_zero, List.set_cons_succ])
    refine wpAnyH_done (by decide +kernel) ?_ _
    go_wp2_with fail
    go_meet
    case rel => exact ⟨rfl, rfl, rfl, HB.out _ HB5.out, below_next B2.out HB5.out, Nat.le_trans z2 HB5.out.size⟩
  case rest =>
  obtain ⟨rfl, rfl, rfl, ⟨hx8, hy8⟩, b8, z8⟩ := hcut
  clear HB B2
  have RX8 := Lib.hid hx8
  have RY8 := Lib.hid hy8
  clear hx8 hy8
  go_upto_region 9 with fail
  go_cut [7] from 9 to 44 (fun s7 wx => ∃ (nb0 : Nat) (k6 : DA), s7 = .pointer (some ⟨nb0, 0, none⟩) ∧ w.heap.size + 1 + 1 ≤ nb0 ∧ BoxP nb0 (x.cells k6).toList wx ∧ DRow wx x k6 ∧ (wx.rangeAt w.heap.size 0 (x.cells k).toList ∧ wx.rangeAt (w.heap.size + 1) 0 (y.cells l).toList) ∧ Below w.heap.size w wx)
  case first =>
    go_wp2_with (refine wpList_load_mid rfl 81 _ rfl _ _ rfl _ _ RX8.out Try.underlying81 rfl (by kernel_rfl) ?_)
    refine (toDesk_c x k _ (hx.below b8 (Nat.le_refl _)) l1).mono ?_
    rintro e v1 ⟨kv, rfl, ho, hv⟩
    have BB : Below v1.heap.size v1 ((v1.alloc (.cells #[.int .i64 0, .int .i64 0, .bool false, .bool false, .bool false, .bool false, .bool false, .int .i64 0, .int .i64 0, .slice none 0 0, .slice none 0 0, .int .i64 0, .int .i64 0, .int .i64 0, .bool false, .bool false, .bool false, .bool false, .bool false, .int .i64 0, .int .i64 0, .int .i64 0, .slice none 0 0, .slice none 0 0] 87)).setCells v1.heap.size 0 (x.cells kv).toList) := below_sets (Nat.le_refl _) _ _ (below_alloc1 _ _)
    have KB : BoxP v1.heap.size (x.cells kv).toList ((v1.alloc (.cells #[.int .i64 0, .int .i64 0, .bool false, .bool false, .bool false, .bool false, .bool false, .int .i64 0, .int .i64 0, .slice none 0 0, .slice none 0 0, .int .i64 0, .int .i64 0, .int .i64 0, .bool false, .bool false, .bool false, .bool false, .bool false, .int .i64 0, .int .i64 0, .int .i64 0, .slice none 0 0, .slice none 0 0] 87)).setCells v1.heap.size 0 (x.cells kv).toList) := boxP_sets_all (Bx.alloc v1 #[.int .i64 0, .int .i64 0, .bool false, .bool false, .bool false, .bool false, .bool false, .int .i64 0, .int .i64 0, .slice none 0 0, .slice none 0 0, .int .i64 0, .int .i64 0, .int .i64 0, .bool false, .bool false, .bool false, .bool false, .bool false, .int .i64 0, .int .i64 0, .int .i64 0, .slice none 0 0, .slice none 0 0] 87 rfl).box rfl
    have t1 := hv.size
    have K := Lib.hid (⟨KB, ho.row.below BB (Nat.le_refl _), range_below (range_below RX8.out hv (by omega)) BB (by omega), range_below (range_below RY8.out hv (by omega)) BB (by omega), below_next (below_next b8 hv) BB⟩ : _ ∧ _ ∧ _ ∧ _ ∧ _)
    have t2 : w.heap.size + 1 + 1 ≤ v1.heap.size := by omega
    clear ho hv BB KB
    go_wp2_with (refine wpList_store_mid rfl 87 _ _ rfl _ 0 (x.cells kv) rfl rfl (there_alloc2 _ _ _ rfl) (by kernel_rfl) (by simp [Value.oneCell', Dk.cells]) ?_)
    go_meet
    case rel =>
      have K := K.out
      exact ⟨_, kv, rfl, t2, K.1, K.2.1, ⟨K.2.2.1, K.2.2.2.1⟩, K.2.2.2.2⟩
  case rest =>
  obtain ⟨nb0, k6, rfl, n0, hb0, hd0, ⟨hx8, hy8⟩, b8⟩ := hcut
  clear RX8 RY8
  have RX8 := Lib.hid hx8
  have RY8 := Lib.hid hy8
  have z8 : nb0 < wc.heap.size := World.block_lt_of_cell? _ _ (hb0 0 _ rfl)
  clear hx8 hy8
  go_upto_region 10 with fail
  go_cut [8] from 9 to 44 (fun s8 wx => ∃ (nb1 : Nat) (k7 : DA), s8 = .pointer (some ⟨nb1, 0, none⟩) ∧ w.heap.size + 1 + 1 ≤ nb1 ∧ BoxP nb1 (y.cells k7).toList wx ∧ DRow wx y k7 ∧ BoxP nb0 (x.cells k6).toList wx ∧ DRow wx x k6 ∧ (wx.rangeAt w.heap.size 0 (x.cells k).toList ∧ wx.rangeAt (w.heap.size + 1) 0 (y.cells l).toList) ∧ Below w.heap.size w wx)
  case first =>
    go_wp2_with (refine wpList_load_mid rfl 81 _ rfl _ _ rfl _ _ RY8.out Try.underlying81 rfl (by kernel_rfl) ?_)
    refine (toDesk_c y l _ (hy.below b8 (Nat.le_refl _)) l5).mono ?_
    rintro e v1 ⟨kv, rfl, ho, hv⟩
    have BB : Below v1.heap.size v1 ((v1.alloc (.cells #[.int .i64 0, .int .i64 0, .bool false, .bool false, .bool false, .bool false, .bool false, .int .i64 0, .int .i64 0, .slice none 0 0, .slice none 0 0, .int .i64 0, .int .i64 0, .int .i64 0, .bool false, .bool false, .bool false, .bool false, .bool false, .int .i64 0, .int .i64 0, .int .i64 0, .slice none 0 0, .slice none 0 0] 87)).setCells v1.heap.size 0 (y.cells kv).toList) := below_sets (Nat.le_refl _) _ _ (below_alloc1 _ _)
    have KB : BoxP v1.heap.size (y.cells kv).toList ((v1.alloc (.cells #[.int .i64 0, .int .i64 0, .bool false, .bool false, .bool false, .bool false, .bool false, .int .i64 0, .int .i64 0, .slice none 0 0, .slice none 0 0, .int .i64 0, .int .i64 0, .int .i64 0, .bool false, .bool false, .bool false, .bool false, .bool false, .int .i64 0, .int .i64 0, .int .i64 0, .slice none 0 0, .slice none 0 0] 87)).setCells v1.heap.size 0 (y.cells kv).toList) := boxP_sets_all (Bx.alloc v1 #[.int .i64 0, .int .i64 0, .bool false, .bool false, .bool false, .bool false, .bool false, .int .i64 0, .int .i64 0, .slice none 0 0, .slice none 0 0, .int .i64 0, .int .i64 0, .int .i64 0, .bool false, .bool false, .bool false, .bool false, .bool false, .int .i64 0, .int .i64 0, .int .i64 0, .slice none 0 0, .slice none 0 0] 87 rfl).box rfl
    have t1 := hv.size
    have K := Lib.hid (⟨KB, ho.row.below BB (Nat.le_refl _), range_below (range_below RX8.out hv (by omega)) BB (by omega), range_below (range_below RY8.out hv (by omega)) BB (by omega), below_next (below_next b8 hv) BB, box_below2 (box_below2 hb0 hv) BB, (hd0.below hv (Nat.le_refl _)).below BB (Nat.le_refl _)⟩ : _ ∧ _ ∧ _ ∧ _ ∧ _ ∧ _ ∧ _)
    have t2 : w.heap.size + 1 + 1 ≤ v1.heap.size := by omega
    clear ho hv BB KB
    go_wp2_with (refine wpList_store_mid rfl 87 _ _ rfl _ 0 (y.cells kv) rfl rfl (there_alloc2 _ _ _ rfl) (by kernel_rfl) (by simp [Value.oneCell', Dk.cells]) ?_)
    go_meet
    case rel =>
      have K := K.out
      exact ⟨_, kv, rfl, t2, K.1, K.2.1, K.2.2.2.2.2.1, K.2.2.2.2.2.2, ⟨K.2.2.1, K.2.2.2.1⟩, K.2.2.2.2.1⟩
  case rest =>
  obtain ⟨nb1, k7, rfl, n1, hb1, hd1, hb0', hd0', ⟨hx8, hy8⟩, b8⟩ := hcut
  clear RX8 RY8 hb0 hd0 z8
  have RX8 := Lib.hid hx8
  have RY8 := Lib.hid hy8
  have RA := Lib.hid (boxP_range2 hb0')
  have RB := Lib.hid (boxP_range2 hb1)
  have ZA : Hid (nb0 < wc.heap.size) := World.block_lt_of_cell? _ _ (hb0' 0 _ rfl)
  have ZB : Hid (nb1 < wc.heap.size) := World.block_lt_of_cell? _ _ (hb1 0 _ rfl)
  have ZX : Hid (w.heap.size < wc.heap.size) := Nat.lt_trans (by omega) ZA.out
  have ZY : Hid (w.heap.size + 1 < wc.heap.size) := Nat.lt_of_lt_of_le (by omega) (Nat.le_of_lt ZA.out)
  clear hx8 hy8
  go_wp2_with (first | (refine wpList_load_mid rfl 87 _ rfl _ _ rfl _ _ RA.out Try.underlying87 rfl (by kernel_rfl) ?_) | (refine wpList_load_mid rfl 87 _ rfl _ _ rfl _ _ RB.out Try.underlying87 rfl (by kernel_rfl) ?_))
  refine (iSameDesk_c x y k6 k7 _ hd0' hd1 m1 m2).mono ?_
  rintro e w3 ⟨rfl, hb3⟩
  have HB : Hid (∀ W, Below w3.heap.size w3 W → (W.rangeAt nb0 0 (x.cells k6).toList ∧ W.rangeAt nb1 0 (y.cells k7).toList ∧ W.rangeAt w.heap.size 0 (x.cells k).toList ∧ W.rangeAt (w.heap.size + 1) 0 (y.cells l).toList)) := fun W hW =>
    ⟨range_below (range_below RA.out hb3 ZA.out) hW (Nat.lt_of_lt_of_le ZA.out hb3.size), range_below (range_below RB.out hb3 ZB.out) hW (Nat.lt_of_lt_of_le ZB.out hb3.size), range_below (range_below RX8.out hb3 ZX.out) hW (Nat.lt_of_lt_of_le ZX.out hb3.size), range_below (range_below RY8.out hb3 ZY.out) hW (Nat.lt_of_lt_of_le ZY.out hb3.size)⟩
  have KA : Hid (∀ W : World, (W.rangeAt nb0 0 (x.cells k6).toList ∧ W.rangeAt nb1 0 (y.cells k7).toList ∧ W.rangeAt w.heap.size 0 (x.cells k).toList ∧ W.rangeAt (w.heap.size + 1) 0 (y.cells l).toList) → W.rangeAt nb0 0 (x.cells k6).toList) := fun W h => h.1
  have KB : Hid (∀ W : World, (W.rangeAt nb0 0 (x.cells k6).toList ∧ W.rangeAt nb1 0 (y.cells k7).toList ∧ W.rangeAt w.heap.size 0 (x.cells k).toList ∧ W.rangeAt (w.heap.size + 1) 0 (y.cells l).toList) → W.rangeAt nb1 0 (y.cells k7).toList) := fun W h => h.2.1
  have KX : Hid (∀ W : World, (W.rangeAt nb0 0 (x.cells k6).toList ∧ W.rangeAt nb1 0 (y.cells k7).toList ∧ W.rangeAt w.heap.size 0 (x.cells k).toList ∧ W.rangeAt (w.heap.size + 1) 0 (y.cells l).toList) → W.rangeAt w.heap.size 0 (x.cells k).toList) := fun W h => h.2.2.1
  have KY : Hid (∀ W : World, (W.rangeAt nb0 0 (x.cells k6).toList ∧ W.rangeAt nb1 0 (y.cells k7).toList ∧ W.rangeAt w.heap.size 0 (x.cells k).toList ∧ W.rangeAt (w.heap.size + 1) 0 (y.cells l).toList) → W.rangeAt (w.heap.size + 1) 0 (y.cells l).toList) := fun W h => h.2.2.2
  have B3 := Lib.hid (below_next b8 hb3)
  have DA1 := Lib.hid (hd0'.below hb3 (Nat.le_refl _))
  have DB1 := Lib.hid (hd1.below hb3 (Nat.le_refl _))
  clear RA RB RX8 RY8 ZA ZB ZX ZY hb3 b8 hd0' hd1 hb0' hb1
  go_wp2_with fail
  refine heldH (S := fun W => W.rangeAt nb0 0 (x.cells k6).toList ∧ W.rangeAt nb1 0 (y.cells k7).toList ∧ W.rangeAt w.heap.size 0 (x.cells k).toList ∧ W.rangeAt (w.heap.size + 1) 0 (y.cells l).toList) (n := 5) (listed := #[false, false, false, false, false]) (by kernel_rfl) (by rfl) (by rfl) ?_ (fun hHeld => ?_)
  (focus ((try dsimp only); (first | done | (((refine HB.out _ ?_; first | (with_reducible exact HB5.out) | (with_reducible exact HB4.out) | exact (Below.refl _ _).drew)); done))))
  (refine takeM (i := 0) 87 _ (by decide +kernel) (by decide +kernel) (by kernel_rfl) (by rfl) (by exact fun _ _ _ h => h) (by rfl) rfl rfl KA.out Try.underlying87 rfl (by kernel_rfl) (by assumption) ?_); (try simp only [Act.put, List.setIfInBounds_toArray, List.set_cons_zero, List.set_cons_succ])
  (refine takeM (i := 1) 81 _ (by decide +kernel) (by decide +kernel) (by kernel_rfl) (by rfl) (by exact fun _ _ _ h => h) (by rfl) rfl rfl KX.out Try.underlying81 rfl (by kernel_rfl) (by assumption) ?_); (try simp only [Act.put, List.setIfInBounds_toArray, List.set_cons_zero, List.set_cons_succ])
  refine nextH (i := 2) (by decide +kernel) (by rfl) (by rfl) (fun K hK => ?_)
  go_simp
  (first | (go_at_call 53; (refine (eqDesk_c x x k6 k4 _ (DA1.out.below HB4.out (Nat.le_refl _)) ho4.row m1 m1).mono ?_); (rintro e w5 ⟨rfl, hb5⟩); (have HB5 := Lib.hid (below_next HB4.out hb5))) | (go_at_call 51; (refine (toDesk_c x k _ (hx.below B3.out.drew (Nat.le_refl _)) l1).mono ?_); (rintro e w4 ⟨k4, rfl, ho4, hb4⟩); (have HB4 : Hid (Below w3.heap.size w3 w4) := below_next (Below.refl _ _).drew hb4)) | skip)
  refine hK.out _ _ ?_ (fun hHeld' => ?_)
  (focus ((try dsimp only); (first | done | (((refine HB.out _ ?_; first | (with_reducible exact HB5.out) | (with_reducible exact HB4.out) | exact (Below.refl _ _).drew)); done))))
  clear hK K hHeld
  have hHeld := hHeld'
  clear hHeld'
  (try simp only [Act.put, List.setIfInBounds_toArray, List.set_cons_zero, List.set_cons_succ])
  refine nextH (i := 3) (by decide +kernel) (by rfl) (by rfl) (fun K hK => ?_)
  go_simp
  (first | (go_at_call 53; (refine (eqDesk_c x x k6 k4 _ (DA1.out.below HB4.out (Nat.le_refl _)) ho4.row m1 m1).mono ?_); (rintro e w5 ⟨rfl, hb5⟩); (have HB5 := Lib.hid (below_next HB4.out hb5))) | (go_at_call 51; (refine (toDesk_c x k _ (hx.below B3.out.drew (Nat.le_refl _)) l1).mono ?_); (rintro e w4 ⟨k4, rfl, ho4, hb4⟩); (have HB4 : Hid (Below w3.heap.size w3 w4) := below_next (Below.refl _ _).drew hb4)) | skip)
  refine hK.out _ _ ?_ (fun hHeld' => ?_)
  (focus ((try dsimp only); (first | done | (((refine HB.out _ ?_; first | (with_reducible exact HB5.out) | (with_reducible exact HB4.out) | exact (Below.refl _ _).drew)); done))))
  clear hK K hHeld
  have hHeld := hHeld'
  clear hHeld'
  (try simp only [Act.put, List.setIfInBounds_toArray, List.set_cons_zero, List.set_cons_succ])
  (refine takeH (i := 4) (v := ?_) (by decide +kernel) (by decide +kernel) (by kernel_rfl) (by rfl) (by exact fun _ _ _ h => h) (by rfl) ?_ (by assumption) ?_); rotate_left; (focus (intro w hSw; (try dsimp only at hSw); go_simp; (try with_reducible rfl); done)); (try simp only [Act.put, List.setIfInBounds_toArray, List.set_cons_zero, List.set_cons_succ])
  refine wpAnyH_done (by decide +kernel) ?_ _
  have HC : Hid (∀ W, Below w5.heap.size w5 W → (W.rangeAt nb0 0 (x.cells k6).toList ∧ W.rangeAt nb1 0 (y.cells k7).toList ∧ W.rangeAt w.heap.size 0 (x.cells k).toList ∧ W.rangeAt (w.heap.size + 1) 0 (y.cells l).toList)) := fun W hW => HB.out W (below_next HB5.out hW)
  have B5 := Lib.hid (below_next B3.out HB5.out)
  have DB2 := Lib.hid (DB1.out.below HB5.out (Nat.le_refl _))
  clear HB HB4 HB5 hb4 hb5 ho4 DA1 DB1 B3 hHeld
  go_wp2_with fail
  refine heldH (S := fun W => W.rangeAt nb0 0 (x.cells k6).toList ∧ W.rangeAt nb1 0 (y.cells k7).toList ∧ W.rangeAt w.heap.size 0 (x.cells k).toList ∧ W.rangeAt (w.heap.size + 1) 0 (y.cells l).toList) (n := 5) (listed := #[false, false, false, false, false]) (by kernel_rfl) (by rfl) (by rfl) ?_ (fun hHeld => ?_)
  (focus ((try dsimp only); (first | done | (((refine HC.out _ ?_; first | (with_reducible exact HB7.out) | (with_reducible exact HB6.out) | exact (Below.refl _ _).drew)); done))))
  (refine takeM (i := 0) 87 _ (by decide +kernel) (by decide +kernel) (by kernel_rfl) (by rfl) (by exact fun _ _ _ h => h) (by rfl) rfl rfl KB.out Try.underlying87 rfl (by kernel_rfl) (by assumption) ?_); (try simp only [Act.put, List.setIfInBounds_toArray, List.set_cons_zero, List.set_cons_succ])
  (refine takeM (i := 1) 81 _ (by decide +kernel) (by decide +kernel) (by kernel_rfl) (by rfl) (by exact fun _ _ _ h => h) (by rfl) rfl rfl KY.out Try.underlying81 rfl (by kernel_rfl) (by assumption) ?_); (try simp only [Act.put, List.setIfInBounds_toArray, List.set_cons_zero, List.set_cons_succ])
  refine nextH (i := 2) (by decide +kernel) (by rfl) (by rfl) (fun K hK => ?_)
  go_simp
  (first | (go_at_call 53; (refine (eqDesk_c y y k7 k5 _ (DB2.out.below HB6.out (Nat.le_refl _)) ho6.row m2 m2).mono ?_); (rintro e w7 ⟨rfl, hb7⟩); (have HB7 := Lib.hid (below_next HB6.out hb7))) | (go_at_call 51; (refine (toDesk_c y l _ (hy.below B5.out.drew (Nat.le_refl _)) l5).mono ?_); (rintro e w6 ⟨k5, rfl, ho6, hb6⟩); (have HB6 : Hid (Below w5.heap.size w5 w6) := below_next (Below.refl _ _).drew hb6)) | skip)
  refine hK.out _ _ ?_ (fun hHeld' => ?_)
  (focus ((try dsimp only); (first | done | (((refine HC.out _ ?_; first | (with_reducible exact HB7.out) | (with_reducible exact HB6.out) | exact (Below.refl _ _).drew)); done))))
  clear hK K hHeld
  have hHeld := hHeld'
  clear hHeld'
  (try simp only [Act.put, List.setIfInBounds_toArray, List.set_cons_zero, List.set_cons_succ])
  refine nextH (i := 3) (by decide +kernel) (by rfl) (by rfl) (fun K hK => ?_)
  go_simp
  (first | (go_at_call 53; (refine (eqDesk_c y y k7 k5 _ (DB2.out.below HB6.out (Nat.le_refl _)) ho6.row m2 m2).mono ?_); (rintro e w7 ⟨rfl, hb7⟩); (have HB7 := Lib.hid (below_next HB6.out hb7))) | (go_at_call 51; (refine (toDesk_c y l _ (hy.below B5.out.drew (Nat.le_refl _)) l5).mono ?_); (rintro e w6 ⟨k5, rfl, ho6, hb6⟩); (have HB6 : Hid (Below w5.heap.size w5 w6) := below_next (Below.refl _ _).drew hb6)) | skip)
  refine hK.out _ _ ?_ (fun hHeld' => ?_)
  (focus ((try dsimp only); (first | done | (((refine HC.out _ ?_; first | (with_reducible exact HB7.out) | (with_reducible exact HB6.out) | exact (Below.refl _ _).drew)); done))))
  clear hK K hHeld
  have hHeld := hHeld'
  clear hHeld'
  (try simp only [Act.put, List.setIfInBounds_toArray, List.set_cons_zero, List.set_cons_succ])
  (refine takeH (i := 4) (v := ?_) (by decide +kernel) (by decide +kernel) (by kernel_rfl) (by rfl) (by exact fun _ _ _ h => h) (by rfl) ?_ (by assumption) ?_); rotate_left; (focus (intro w hSw; (try dsimp only at hSw); go_simp; (try with_reducible rfl); done)); (try simp only [Act.put, List.setIfInBounds_toArray, List.set_cons_zero, List.set_cons_succ])
  refine wpAnyH_done (by decide +kernel) ?_ _
  go_wp2_with fail
  go_ret
  exact ⟨rfl, below_next B5.out HB7.out⟩
set_option maxRecDepth 100000 in
theorem contract (H : Type) (enc : TypeId × Value → H) (W : World) (base : Nat) (args : Array Value) (ds gs : List (DataW H)) (before : List MemPlace)
    (hval : ∀ (j : Nat) t v, Try.f10.params[j]? = some t → args[j]? = some v → Value.okWide Try.prog W .any base t v)
    (hW : DataW.Whole enc Try.prog Try.f10.params.toList Rows.fnExactSameDeskSpec.vars false W args.toList ds gs before) :
    Calls Try.prog 10 args W fun e W' => ∃ v, e = .returned v ∧ Rows.fnExactSameDeskSpec.post enc Try.prog Try.f10 false true false false W args v W' := by
  have hW' := hW
  obtain ⟨p, q, hA0, hV, rfl, hfz, hnd⟩ := hW
  have hA : DataW.TrodAll enc Try.prog W 0 (fun _ => true) true Try.f10.params.toList args.toList ds p := hA0
  rw [Try.params10] at hA hval
  obtain ⟨v0, vs0, d0, ds0, p0, q0, hargs, rfl, rfl, h0, r0⟩ := trodAll_cons hA
  obtain ⟨v1, vs1, d1, ds1, p1, q1, rfl, rfl, rfl, h1, r1⟩ := trodAll_cons r0
  obtain ⟨rfl, rfl, rfl⟩ := trodAll_nil r1
  obtain rfl : args = #[v0, v1] := by cases args; simp_all
  obtain ⟨a0, k0, rfl, w0⟩ := arg_desk (hval 0 81 v0 rfl rfl) h0
  obtain ⟨a1, k1, rfl, w1⟩ := arg_desk (hval 1 81 v1 rfl rfl) h1
  refine (walk a0 a1 k0 k1 W w0.1 w1.1 w0.2 w1.2).mono fun e W' ⟨he, hb⟩ => ?_
  subst he
  exact ⟨_, rfl, law_post hW' hb rfl rfl (by kernel_rfl) rfl⟩

set_option maxRecDepth 100000 in
theorem lifted (os : Os) (started : os.Started) (H : Type) (enc : TypeId × Value → H) :
    ReturnsInHanded {} Try.checked os 10 .any (Rows.fnExactSameDeskSpec.pre6 enc Try.prog Try.f10 Rows.fnExactSameDeskRow.domain false) (Rows.fnExactSameDeskSpec.post enc Try.prog Try.f10 false true false false) := by
  refine returnsInHanded_of_change (C := Try.checked) (s := Rows.fnExactSameDeskSpec) own started (by kernel_rfl) Try.func10
    (ChangeSpec.witness6 (enc := enc) (C := Try.checked) (s := Rows.fnExactSameDeskSpec) false ⟨#[], #[.agg #[.int .i64 0, .int .i64 0, .bool false, .bool false, .bool false, .bool false, .bool false, .int .i64 0, .int .i64 0, .slice none 0 0, .slice none 0 0, .int .i64 0, .int .i64 0, .int .i64 0, .bool false, .bool false, .bool false, .bool false, .bool false, .int .i64 0, .int .i64 0, .int .i64 0, .slice none 0 0, .slice none 0 0], .agg #[.int .i64 0, .int .i64 0, .bool false, .bool false, .bool false, .bool false, .bool false, .int .i64 0, .int .i64 0, .slice none 0 0, .slice none 0 0, .int .i64 0, .int .i64 0, .int .i64 0, .bool false, .bool false, .bool false, .bool false, .bool false, .int .i64 0, .int .i64 0, .int .i64 0, .slice none 0 0, .slice none 0 0]], []⟩ 8 (by kernel_rfl) (by kernel_rfl) (by kernel_rfl) (by kernel_rfl)) ?_
  intro W base args ds gs before hval hW _ _
  exact contract H enc W base args ds gs before hval hW

theorem proved : Rows.FnExactSameDeskSaid :=
  OpenClaim.holds_of_wide 10 Try.f10 rfl rfl rfl rfl rfl rfl rfl ⟨rfl, rfl, rfl, rfl, rfl⟩ rfl rfl rfl rfl rfl (by kernel_rfl) Try.func10 (by kernel_rfl)
    (of_decide_eq_true (by kernel_rfl)) (by unfold Func.isWrapper; first | (rw [if_pos (by decide +kernel)]; kernel_rfl) | (rw [if_neg (by decide +kernel)]; exact ⟨rfl, rfl⟩))
    (fun os started H enc _ => lifted os started H enc)
end Go.Proofs.Yteabheocbkcmnaa.lSameDesk
