/- The law FnExactForgetShallow returns true for every argument, and every argument reads afterwards as before. No conditions. -/
import Derived.Test.YtbjgigdkbjabaaaMemL
import Derived.Deep.CutRange
namespace Go.Proofs.Ytbjgigdkbjabaaa.lForgetShallow
set_option linter.unusedSimpArgs false
set_option linter.unusedVariables false
set_option linter.unnecessarySimpa false
open Go.RowKit Go.ChangeShapes Go.WideShapes Go.ChangeAt Go.Joins
open Go.ChangeMaps (open_string)

set_option maxRecDepth 100000 in
set_option maxHeartbeats 32000000 in
theorem walk (r : R) (l : List (Sl × SA)) (a : Option Addr) (c : Nat) (d : Int) (w : World) (h : SRows w a l) (hl : l.length ≤ maxLen) (hm : ∀ x ∈ l, x.1.pits.length ≤ maxLen) (y : (R × List Sl) × Int)
    (hy : (∀ x ∈ l, x.1.pits.length ≤ 1048576) → Few y.1.2)
    (hs : ∀ (m : List (Sl × SA)) (a : Option Addr) (c : Nat) (w : World), SRows w a m → m.length ≤ 1048576 → (∀ x ∈ m, x.1.pits.length ≤ 1048576) → m.map Prod.fst = l.map Prod.fst → Calls Try.prog 26 #[meVal r a m.length c, .int .i64 d] w (MRes2 w y))
    (hi : ∀ (m : List (Sl × SA)) (a : Option Addr) (c : Nat) (w : World), SRows w a m → m.length ≤ 1048576 → (∀ x ∈ m, x.1.pits.length ≤ 1048576) → m.map Prod.fst = l.map Prod.fst → Calls Try.prog 28 #[meVal r a m.length c, .int .i64 d] w (MRes2 w y)) :
    Calls Try.prog 5 #[meVal r a l.length c, .int .i64 d] w fun e w' => e = .returned (.bool true) ∧ Below w.heap.size w w' := by
  have HS := Lib.hid hs
  have HI := Lib.hid hi
  have HH := Lib.hid h
  have HM := Lib.hid hm
  have HY := Lib.hid hy
  clear hs hi h hm hy
  have F0 := (Fr.start w).alloc (meCells r a l.length c) 48
  obtain ⟨yr, yc⟩ := y
  obtain ⟨yr, yx⟩ := yr
  have HSZ := Lib.hid (szMemory_c r l a c 1048576 _ (HH.out.below F0.below (Nat.le_refl _)) (by omega) (by omega) hl HM.out)
  clear hl
  go_enter Try.func5, Try.ntmps5
  go_wp2_with fail
  refine HSZ.out.mono ?_
  rintro e w1 ⟨v, rfl, hv, hq, hb1⟩
  have HQ := Lib.hid hq
  have F1 := F0.step hb1
  clear F0 hb1 hq HSZ
  by_cases hz : v < 0
  · go_wp2
    go_ret
    exact ⟨rfl, F1.below⟩
  obtain ⟨l1, l2, l3⟩ := HQ.out (by omega)
  have L2 := Lib.hid l2
  have hyf := HY.out l2
  have HF := Lib.hid hyf
  have s1 : w.heap.size + 1 ≤ w1.heap.size := F1.le 0 rfl
  obtain ⟨c0, c1, c2, c3, c4, c5, c6, c7, c8, c9⟩ := me_box (F1.at 0 rfl)
  have HT := Lib.hid (toMemory_c r l a c w1 (HH.out.below F1.below (Nat.le_refl _)) l1 l2)
  have hb5 : 0 ≤ mkSum szSl l ∧ 1 + mkSum szSl l ≤ 1099511627776 := by
    have h1 := mkSum_pl l
    have h2 := plS_bd l l2
    omega
  clear l2 l3 hyf HQ HY
  go_wp2_with fail
  refine HT.out.mono ?_
  rintro e w2 ⟨m2, a2, k2, he2, rfl, hp2, hb2⟩
  have F2 := (F1.step hb2).pcs hp2
  obtain ⟨n2, q2, _, _⟩ := same_list he2 l1 L2.out
  have HC := Lib.hid (HS.out m2 a2 k2 w2 (pcs_srows hp2) (by omega) q2 he2)
  have s2 : w1.heap.size ≤ w2.heap.size := hb2.size
  clear he2 hp2 hb2 F1 n2 q2 HT c0 c1 c2 c3 c4 c5 c6 c7 c8 c9
  go_wp2_with fail
  refine HC.out.mono ?_
  rintro e w3 ⟨m0, a0, k0, he0, rfl, hp3, hb3⟩
  have F4 := ((F2.step hb3).pcs hp3).alloc #[.int .i64 yr.pits, .int .i64 yr.seeds, .bool yr.stores, .bool yr.skip, .bool yr.relay, .bool yr.feed, .bool yr.again, .int .i64 yr.capture, .int .i64 yr.slam, .slice a0 m0.length k0] 52
  obtain ⟨w4, hW⟩ : ∃ W, W = World.alloc w3 (.cells #[.int .i64 yr.pits, .int .i64 yr.seeds, .bool yr.stores, .bool yr.skip, .bool yr.relay, .bool yr.feed, .bool yr.again, .int .i64 yr.capture, .int .i64 yr.slam, .slice a0 m0.length k0] 52) := ⟨_, rfl⟩
  rw [← hW] at F4
  have HW := Lib.hid hW
  clear hW
  have s3 : w2.heap.size ≤ w3.heap.size := hb3.size
  have s4 : w3.heap.size + 1 ≤ w4.heap.size := F4.le 0 rfl
  have HE0 := Lib.hid he0
  clear he0 hp3 hb3 F2 HC
  go_upto_region 6 with fail
  rw [← HW.out]
  clear HW
  obtain ⟨c0, c1, c2, c3, c4, c5, c6, c7, c8, c9⟩ := me_box (F4.at 3 rfl)
  have HT := Lib.hid (toMemory_c r l a c w4 (HH.out.below F4.below (Nat.le_refl _)) l1 L2.out)
  go_wp2_with fail
  refine HT.out.mono ?_
  rintro e w5 ⟨m5, a5, k5, he5, rfl, hp5, hb5'⟩
  have F6 := ((F4.step hb5').pcs hp5).alloc #[.int .i64 r.pits, .int .i64 r.seeds, .bool r.stores, .bool r.skip, .bool r.relay, .bool r.feed, .bool r.again, .int .i64 r.capture, .int .i64 r.slam, .slice a5 m5.length k5] 52
  obtain ⟨w6, hW⟩ : ∃ W, W = World.alloc w5 (.cells #[.int .i64 r.pits, .int .i64 r.seeds, .bool r.stores, .bool r.skip, .bool r.relay, .bool r.feed, .bool r.again, .int .i64 r.capture, .int .i64 r.slam, .slice a5 m5.length k5] 52) := ⟨_, rfl⟩
  rw [← hW] at F6
  have HW := Lib.hid hW
  clear hW
  have s5 : w4.heap.size ≤ w5.heap.size := hb5'.size
  have s6 : w5.heap.size + 1 ≤ w6.heap.size := F6.le 0 rfl
  have HE5 := Lib.hid he5
  clear he5 hp5 hb5' F4 HT c0 c1 c2 c3 c4 c5 c6 c7 c8 c9
  go_upto_region 7 with fail
  rw [← HW.out]
  clear HW
  obtain ⟨x0, x1, x2, x3, x4, x5, x6, x7, x8, x9⟩ := me_box (F6.at 0 rfl)
  obtain ⟨n5, q5, p5, u5⟩ := same_list HE5.out l1 L2.out
  have HQ5 := Lib.hid q5
  have HP5 := Lib.hid p5
  have HC := Lib.hid (HI.out m5 a5 k5 w6 (pcs_srows (F6.at 1 rfl).1) (by omega) q5 HE5.out)
  have HN5 := Lib.hid n5
  have HU5 := Lib.hid u5
  clear n5 q5 p5 u5
  go_wp2_with fail
  refine HC.out.mono ?_
  rintro e w7 ⟨m7, a7, k7, he7, rfl, hp7, hb7⟩
  have F8 := ((F6.step hb7).pcs hp7).alloc #[.int .i64 yr.pits, .int .i64 yr.seeds, .bool yr.stores, .bool yr.skip, .bool yr.relay, .bool yr.feed, .bool yr.again, .int .i64 yr.capture, .int .i64 yr.slam, .slice a7 m7.length k7] 52
  obtain ⟨w8, hW⟩ : ∃ W, W = World.alloc w7 (.cells #[.int .i64 yr.pits, .int .i64 yr.seeds, .bool yr.stores, .bool yr.skip, .bool yr.relay, .bool yr.feed, .bool yr.again, .int .i64 yr.capture, .int .i64 yr.slam, .slice a7 m7.length k7] 52) := ⟨_, rfl⟩
  rw [← hW] at F8
  have HW := Lib.hid hW
  clear hW
  have s7 : w6.heap.size ≤ w7.heap.size := hb7.size
  have s8 : w7.heap.size + 1 ≤ w8.heap.size := F8.le 0 rfl
  have HE7 := Lib.hid he7
  clear he7 hp7 hb7 F6 HC x0 x1 x2 x3 x4 x5 x6 x7 x8 x9
  go_upto_region 8 with fail
  rw [← HW.out]
  clear HW
  obtain ⟨x0, x1, x2, x3, x4, x5, x6, x7, x8, x9⟩ := me_box (F8.at 0 rfl)
  obtain ⟨z0, z1, z2, z3, z4, z5, z6, z7, z8, z9⟩ := me_box (F8.at 4 rfl)
  obtain ⟨n7, q7, p7, u7, v7⟩ := few_list HF.out HE7.out
  have HN7 := Lib.hid n7
  have HP7 := Lib.hid p7
  clear q7 p7
  go_wp2_with fail
  refine (eqMemory_c yr m7 m0 a7 a0 k7 k0 w8 (pcs_srows (F8.at 1 rfl).1) (pcs_srows (F8.at 5 rfl).1) (HE7.out.trans HE0.out.symm) (by have := HN7.out; omega) HP7.out).mono ?_
  rintro e w9 ⟨rfl, hb9⟩
  have F9 := F8.step hb9
  have s9 : w8.heap.size ≤ w9.heap.size := hb9.size
  clear hb9 F8 x0 x1 x2 x3 x4 x5 x6 x7 x8 x9 z0 z1 z2 z3 z4 z5 z6 z7 z8 z9
  obtain ⟨x0, x1, x2, x3, x4, x5, x6, x7, x8, x9⟩ := me_box (F9.at 2 rfl)
  obtain ⟨c0, c1, c2, c3, c4, c5, c6, c7, c8, c9⟩ := me_box (F9.at 7 rfl)
  have HXC := Lib.hid (me_box (F9.at 2 rfl))
  have HCC := Lib.hid (me_box (F9.at 7 rfl))
  have HT := Lib.hid (toMemory_c r l a c w9.drew (HH.out.below (F9.below.drew) (Nat.le_refl _)) l1 L2.out)
  have HF9 := Lib.hid F9
  go_upto_region 10 with fail
  refine heldH (S := fun V => (V.cell? ⟨w5.heap.size, 0, none⟩ = some (.int .i64 r.pits) ∧ V.cell? ⟨w5.heap.size, 1, none⟩ = some (.int .i64 r.seeds) ∧ V.cell? ⟨w5.heap.size, 2, none⟩ = some (.bool r.stores) ∧ V.cell? ⟨w5.heap.size, 3, none⟩ = some (.bool r.skip) ∧ V.cell? ⟨w5.heap.size, 4, none⟩ = some (.bool r.relay) ∧ V.cell? ⟨w5.heap.size, 5, none⟩ = some (.bool r.feed) ∧ V.cell? ⟨w5.heap.size, 6, none⟩ = some (.bool r.again) ∧ V.cell? ⟨w5.heap.size, 7, none⟩ = some (.int .i64 r.capture) ∧ V.cell? ⟨w5.heap.size, 8, none⟩ = some (.int .i64 r.slam) ∧ V.cell? ⟨w5.heap.size, 9, none⟩ = some (.slice a5 m5.length k5)) ∧ (V.cell? ⟨w.heap.size, 0, none⟩ = some (.int .i64 r.pits) ∧ V.cell? ⟨w.heap.size, 1, none⟩ = some (.int .i64 r.seeds) ∧ V.cell? ⟨w.heap.size, 2, none⟩ = some (.bool r.stores) ∧ V.cell? ⟨w.heap.size, 3, none⟩ = some (.bool r.skip) ∧ V.cell? ⟨w.heap.size, 4, none⟩ = some (.bool r.relay) ∧ V.cell? ⟨w.heap.size, 5, none⟩ = some (.bool r.feed) ∧ V.cell? ⟨w.heap.size, 6, none⟩ = some (.bool r.again) ∧ V.cell? ⟨w.heap.size, 7, none⟩ = some (.int .i64 r.capture) ∧ V.cell? ⟨w.heap.size, 8, none⟩ = some (.int .i64 r.slam) ∧ V.cell? ⟨w.heap.size, 9, none⟩ = some (.slice a l.length c))) (n := 5) (listed := #[false, false, false, false, false]) (by kernel_rfl) (by rfl) (by rfl) ?_ (fun hHeld => ?_)
  (focus ((try dsimp only); (first | done | ((first | exact HK11.out | exact HK10.out | exact ⟨HXC.out, HCC.out⟩); done))))
  (refine takeH (i := 0) (v := ?_) (by decide +kernel) (by decide +kernel) (by kernel_rfl) (by rfl) (by exact fun _ _ _ h => h) (by rfl) ?_ (by assumption) ?_); rotate_left; (focus (intro w hSw; (try dsimp only at hSw); go_simp; (try with_reducible rfl); done)); (try simp only [Act.put, List.setIfInBounds_toArray, List.set_cons_zero, List.set_cons_succ])
  (refine takeH (i := 1) (v := ?_) (by decide +kernel) (by decide +kernel) (by kernel_rfl) (by rfl) (by exact fun _ _ _ h => h) (by rfl) ?_ (by assumption) ?_); rotate_left; (focus (intro w hSw; (try dsimp only at hSw); go_simp; (try with_reducible rfl); done)); (try simp only [Act.put, List.setIfInBounds_toArray, List.set_cons_zero, List.set_cons_succ])
  refine nextH (i := 2) (by decide +kernel) (by rfl) (by rfl) (fun K hK => ?_)
  (go_simp; go_at_call 27; (refine HT.out.mono ?_); (rintro e w10 ⟨m10, a10, k10, he10, rfl, hp10, hb10⟩); (have F10 := (HF9.out.drew.step hb10).pcs hp10); (have HK10 := Lib.hid (⟨me_box (F10.at 3 rfl), me_box (F10.at 8 rfl)⟩ : _ ∧ _)))
  refine hK.out _ _ ?_ (fun hHeld' => ?_)
  (focus ((try dsimp only); (first | done | ((first | exact HK11.out | exact HK10.out | exact ⟨HXC.out, HCC.out⟩); done))))
  clear hK K hHeld
  have hHeld := hHeld'
  clear hHeld'
  (try simp only [Act.put, List.setIfInBounds_toArray, List.set_cons_zero, List.set_cons_succ])
  refine nextH (i := 3) (by decide +kernel) (by rfl) (by rfl) (fun K hK => ?_)
  (go_simp; go_at_call 29; (refine (eqMemory_c r m5 m10 a5 a10 k5 k10 w10 (pcs_srows (F10.at 4 rfl).1) (pcs_srows hp10) (HE5.out.trans he10.symm) (by have := HN5.out; omega) HP5.out).mono ?_); (rintro e w11 ⟨rfl, hb11⟩); (have F11 := (HF9.out.drew.step hb10).step hb11); (have HK11 := Lib.hid (⟨me_box (F11.at 2 rfl), me_box (F11.at 7 rfl)⟩ : _ ∧ _)); (have s10 : w9.heap.size ≤ w10.heap.size := hb10.size); (have s11 : w10.heap.size ≤ w11.heap.size := hb11.size))
  refine hK.out _ _ ?_ (fun hHeld' => ?_)
  (focus ((try dsimp only); (first | done | ((first | exact HK11.out | exact HK10.out | exact ⟨HXC.out, HCC.out⟩); done))))
  clear hK K hHeld
  have hHeld := hHeld'
  clear hHeld'
  (try simp only [Act.put, List.setIfInBounds_toArray, List.set_cons_zero, List.set_cons_succ])
  (refine takeH (i := 4) (v := ?_) (by decide +kernel) (by decide +kernel) (by kernel_rfl) (by rfl) (by exact fun _ _ _ h => h) (by rfl) ?_ (by assumption) ?_); rotate_left; (focus (intro w hSw; (try dsimp only at hSw); go_simp; (try with_reducible rfl); done)); (try simp only [Act.put, List.setIfInBounds_toArray, List.set_cons_zero, List.set_cons_succ])
  refine wpAnyH_done (by decide +kernel) ?_ _
  clear hHeld HK10 HK11 HXC HCC HF9 HT F9 F10 hp10 hb10 he10 hb11 x0 x1 x2 x3 x4 x5 x6 x7 x8 x9 c0 c1 c2 c3 c4 c5 c6 c7 c8 c9
  obtain ⟨x0, x1, x2, x3, x4, x5, x6, x7, x8, x9⟩ := me_box (F11.at 2 rfl)
  have hkn : ¬ 1 + mkSum szSl m5 < 0 := by rw [HU5.out]; omega
  have HKN := Lib.hid hkn
  clear hkn
  go_upto_region 13 with fail
  go_wp2_with fail
  refine (markMemory_c r _ _ a5 k5 m5 1 w11 (F11.at 3 rfl) (F11.le 3 rfl) (by have := HN5.out; omega) (by omega) (by have := HU5.out; omega)).mono ?_
  rintro e w12 ⟨rfl, _, hg12⟩
  have F12 := F11.chgAt 3 hg12 (by omega) (by simp [List.eraseIdx]; omega)
  have s12 : w11.heap.size ≤ w12.heap.size := hg12.size
  clear hg12 F11 x0 x1 x2 x3 x4 x5 x6 x7 x8 x9
  obtain ⟨x0, x1, x2, x3, x4, x5, x6, x7, x8, x9⟩ := me_box (F12.at 0 rfl)
  obtain ⟨z0, z1, z2, z3, z4, z5, z6, z7, z8, z9⟩ := me_box (F12.at 3 rfl)
  have hkn := HKN.out
  go_wp2_with fail
  refine (eqMemory_c yr m7 m0 a7 a0 k7 k0 w12 (pcs_srows (F12.at 1 rfl).1) (pcs_srows (F12.at 4 rfl).1) (HE7.out.trans HE0.out.symm) (by have := HN7.out; omega) HP7.out).mono ?_
  rintro e w13 ⟨rfl, hb13⟩
  have F13 := F12.step hb13
  have s13 : w12.heap.size ≤ w13.heap.size := hb13.size
  clear hb13 F12 HKN x0 x1 x2 x3 x4 x5 x6 x7 x8 x9 z0 z1 z2 z3 z4 z5 z6 z7 z8 z9
  obtain ⟨x0, x1, x2, x3, x4, x5, x6, x7, x8, x9⟩ := me_box (F13.at 0 rfl)
  have HU7 : Hid (0 ≤ mkSum szSl m7 ∧ 1 + mkSum szSl m7 ≤ 1099511627776) := ⟨u7, v7⟩
  clear u7 v7
  go_upto_region 17 with fail
  clear hkn
  go_wp2_with fail
  refine (markMemory_c yr _ _ a7 k7 m7 1 w13 (F13.at 1 rfl) (F13.le 1 rfl) (by have := HN7.out; omega) (by omega) HU7.out.2).mono ?_
  rintro e w14 ⟨rfl, hp14, hg14⟩
  have F14 := (F13.chgAt 1 hg14 (by omega) (by simp [List.eraseIdx]; omega)).add _ _ _ (PcsP.stab _ _ _) hp14 (Nat.le_trans (F13.le 1 rfl) hg14.size)
  have s14 : w13.heap.size ≤ w14.heap.size := hg14.size
  clear hg14 hp14 F13 x0 x1 x2 x3 x4 x5 x6 x7 x8 x9
  obtain ⟨x0, x1, x2, x3, x4, x5, x6, x7, x8, x9⟩ := me_box (F14.at 1 rfl)
  go_upto_region 19 with fail
  go_wp2_with fail
  refine (heldMemory_c yr a7 k7 m7 1 w14 (pcs_srows (F14.at 0 rfl).1) (by have := HN7.out; omega) (by omega) HU7.out.2).mono ?_
  rintro e w15 ⟨rfl, hb15⟩
  have F15 := F14.step hb15
  have s15 : w14.heap.size ≤ w15.heap.size := hb15.size
  clear hb15 F14 x0 x1 x2 x3 x4 x5 x6 x7 x8 x9
  obtain ⟨c0, c1, c2, c3, c4, c5, c6, c7, c8, c9⟩ := me_box (F15.at 6 rfl)
  have hq7 : ¬ 1 + mkSum szSl m7 < 0 := by have := HU7.out; omega
  have HQ7 := Lib.hid hq7
  have HT := Lib.hid (toMemory_c r l a c w15 (HH.out.below F15.below (Nat.le_refl _)) l1 L2.out)
  go_upto_region 24 with fail
  go_wp2_with fail
  refine HT.out.mono ?_
  rintro e w16 ⟨m16, a16, k16, he16, rfl, hp16, hb16⟩
  have F16 := F15.step hb16
  obtain ⟨n16, q16, _, _⟩ := same_list he16 l1 L2.out
  have HC := Lib.hid (HI.out m16 a16 k16 w16 (pcs_srows hp16) (by omega) q16 he16)
  clear hp16 hb16 F15 HT n16 q16 he16 hq7 c0 c1 c2 c3 c4 c5 c6 c7 c8 c9
  go_wp2_with fail
  refine HC.out.mono ?_
  rintro e w17 ⟨m17, a17, k17, he17, rfl, hp17, hb17⟩
  have F18 := ((F16.step hb17).pcs hp17).alloc #[.int .i64 yr.pits, .int .i64 yr.seeds, .bool yr.stores, .bool yr.skip, .bool yr.relay, .bool yr.feed, .bool yr.again, .int .i64 yr.capture, .int .i64 yr.slam, .slice a17 m17.length k17] 52
  obtain ⟨w18, hW⟩ : ∃ W, W = World.alloc w17 (.cells #[.int .i64 yr.pits, .int .i64 yr.seeds, .bool yr.stores, .bool yr.skip, .bool yr.relay, .bool yr.feed, .bool yr.again, .int .i64 yr.capture, .int .i64 yr.slam, .slice a17 m17.length k17] 52) := ⟨_, rfl⟩
  rw [← hW] at F18
  have HW := Lib.hid hW
  clear hW
  have HE17 := Lib.hid he17
  clear he17 hp17 hb17 F16 HC
  go_upto_region 25 with fail
  rw [← HW.out]
  clear HW
  obtain ⟨x0, x1, x2, x3, x4, x5, x6, x7, x8, x9⟩ := me_box (F18.at 0 rfl)
  obtain ⟨z0, z1, z2, z3, z4, z5, z6, z7, z8, z9⟩ := me_box (F18.at 5 rfl)
  obtain ⟨n17, _, p17, _, _⟩ := few_list HF.out HE17.out
  have HP17 := Lib.hid p17
  clear p17
  go_wp2_with fail
  refine (eqMemory_c yr m17 m0 a17 a0 k17 k0 w18 (pcs_srows (F18.at 1 rfl).1) (pcs_srows (F18.at 6 rfl).1) (HE17.out.trans HE0.out.symm) (by omega) HP17.out).mono ?_
  rintro e w19 ⟨rfl, hb19⟩
  have F19 := F18.step hb19
  clear hb19 F18 x0 x1 x2 x3 x4 x5 x6 x7 x8 x9 z0 z1 z2 z3 z4 z5 z6 z7 z8 z9
  obtain ⟨x0, x1, x2, x3, x4, x5, x6, x7, x8, x9⟩ := me_box (F19.at 3 rfl)
  go_upto_region 28 with fail
  go_wp2_with fail
  refine (heldMemory_c yr a7 k7 m7 1 w19 (pcs_srows (F19.at 2 rfl).1) (by have := HN7.out; omega) (by omega) HU7.out.2).mono ?_
  rintro e w20 ⟨rfl, hb20⟩
  have F20 := F19.step hb20
  have hq7 := HQ7.out
  clear hb20 F19 HQ7 x0 x1 x2 x3 x4 x5 x6 x7 x8 x9
  go_wp2
  go_ret
  exact ⟨rfl, F20.below⟩

theorem walked (r : R) (l : List (Sl × SA)) (a : Option Addr) (c : Nat) (d : Int) (w : World) (h : SRows w a l) (hl : l.length ≤ maxLen) (hm : ∀ x ∈ l, x.1.pits.length ≤ maxLen) :
    Calls Try.prog 5 #[meVal r a l.length c, .int .i64 d] w fun e w' => e = .returned (.bool true) ∧ Below w.heap.size w w' :=
  walk r l a c d w h hl hm (forgetP r (l.map Prod.fst) d) (fun h => forget_few h)
    (fun m a c w h h1 h2 he => by have hk := sForgetShallow_c r m a c d w h h1 h2; rw [he] at hk; exact hk)
    (fun m a c w h h1 h2 he => by have hk := iForgetShallow_c r m a c d w h h1 h2; rw [he] at hk; exact hk)

set_option maxRecDepth 100000 in
theorem contract (H : Type) (enc : TypeId × Value → H) (W : World) (base : Nat) (args : Array Value) (ds gs : List (DataW H)) (before : List MemPlace)
    (hval : ∀ (j : Nat) t v, Try.f5.params[j]? = some t → args[j]? = some v → Value.okWide Try.prog W .any base t v)
    (hW : DataW.Whole enc Try.prog Try.f5.params.toList Rows.fnExactForgetShallowSpec.vars false W args.toList ds gs before) :
    Calls Try.prog 5 args W fun e W' => ∃ v, e = .returned v ∧ Rows.fnExactForgetShallowSpec.post enc Try.prog Try.f5 false true false false W args v W' := by
  have hW' := hW
  obtain ⟨p, q, hA0, hV, rfl, hfz, hnd⟩ := hW
  have hA : DataW.TrodAll enc Try.prog W 0 (fun _ => true) true Try.f5.params.toList args.toList ds p := hA0
  rw [Try.params5] at hA hval
  obtain ⟨v0, vs0, d0, ds0, p0, q0, hargs, rfl, rfl, h0, r0⟩ := trodAll_cons hA
  obtain ⟨v1, vs1, d1, ds1, p1, q1, rfl, rfl, rfl, h1, r1⟩ := trodAll_cons r0
  obtain ⟨rfl, rfl, rfl⟩ := trodAll_nil r1
  obtain rfl : args = #[v0, v1] := by cases args; simp_all
  obtain ⟨mr0, sl0, sa0, sc0, rfl, w0⟩ := arg_memory (hval 0 48 v0 rfl rfl) h0
  obtain ⟨a1, rfl, _, _, w1⟩ := open_int Try.underlying2 (hval 1 2 v1 rfl rfl) h1
  refine (walked mr0 sl0 sa0 sc0 a1 W w0.1 w0.2.1 w0.2.2).mono fun e W' ⟨he, hb⟩ => ?_
  subst he
  exact ⟨_, rfl, law_post hW' hb rfl rfl (by kernel_rfl) rfl⟩

set_option maxRecDepth 100000 in
theorem lifted (os : Os) (started : os.Started) (H : Type) (enc : TypeId × Value → H) :
    ReturnsInHanded {} Try.checked os 5 .any (Rows.fnExactForgetShallowSpec.pre6 enc Try.prog Try.f5 Rows.fnExactForgetShallowRow.domain false) (Rows.fnExactForgetShallowSpec.post enc Try.prog Try.f5 false true false false) := by
  refine returnsInHanded_of_change (C := Try.checked) (s := Rows.fnExactForgetShallowSpec) own started (by kernel_rfl) Try.func5
    (ChangeSpec.witness6 (enc := enc) (C := Try.checked) (s := Rows.fnExactForgetShallowSpec) false ⟨#[], #[.agg #[.int .i64 0, .int .i64 0, .bool false, .bool false, .bool false, .bool false, .bool false, .int .i64 0, .int .i64 0, .slice none 0 0], .int .i64 0], []⟩ 8 (by kernel_rfl) (by kernel_rfl) (by kernel_rfl) (by kernel_rfl)) ?_
  intro W base args ds gs before hval hW _ _
  exact contract H enc W base args ds gs before hval hW

theorem proved : Rows.FnExactForgetShallowSaid :=
  OpenClaim.holds_of_wide 5 Try.f5 rfl rfl rfl rfl rfl rfl rfl ⟨rfl, rfl, rfl, rfl, rfl⟩ rfl rfl rfl rfl rfl (by kernel_rfl) Try.func5 (by kernel_rfl)
    (of_decide_eq_true (by kernel_rfl)) (by unfold Func.isWrapper; first | (rw [if_pos (by decide +kernel)]; kernel_rfl) | (rw [if_neg (by decide +kernel)]; exact ⟨rfl, rfl⟩))
    (fun os started H enc _ => lifted os started H enc)
end Go.Proofs.Ytbjgigdkbjabaaa.lForgetShallow
