/- Tab18: matches that are drawn. Each contract holds for every argument, under the premises that it states. -/
import Derived.Test.YtbjgigdkbjabaaaDoorTab17
import Derived.Deep.AppendLies
namespace Go.Proofs.YtbjgigdkbjabaaaDoor
set_option linter.unusedSimpArgs false
set_option linter.unusedVariables false
set_option linter.unnecessarySimpa false
open Go.RowKit Go.ChangeShapes Go.WideShapes Go.ChangeAt Go.Joins

set_option maxRecDepth 100000 in
set_option maxHeartbeats 16000000 in
theorem l26Draw_c (base b m : Nat) (n : Int) (w : World) (h : SrcP base b m w) (hm : m ≤ 10000) (hn : 0 ≤ n ∧ n ≤ 13) :
    Calls Tryd.prog 70 #[.pointer (some ⟨b, 0, none⟩), .int .i64 n] w fun e w' => ∃ (g c : Nat) (l : List Mt), e = .returned (.slice (some ⟨g, 0, none⟩) l.length c) ∧ l.length ≤ 300 ∧ Pcs w' w.heap.size (mtRL.pcs (some ⟨g, 0, none⟩) c l) ∧ SrcP base b (m + 4000) w' ∧ Chg b (b + 1) w w' := by
  obtain ⟨i0, hi, hz0, hz1, hz2⟩ := info_partsMt infoMt
  have HBL : Hid (b < w.heap.size) := h.lt.1
  have HD := Lib.hid (l24Bent_c base b m n w h (by omega) hn)
  clear h
  go_enter Tryd.func70, Tryd.ntmps70
  go_wp2_with fail
  refine HD.out.mono ?_
  rintro e w1 ⟨gm, cm, ms, rfl, hl1, ho1, hs1, hc1⟩
  have HMS := Lib.hid ho1
  have HS1 : Hid (SrcP base b (m + 1000 + 4 * 0) (w1.alloc (.cells #[] 45))) := hs1.below (below_alloc1 _ _)
  have HCW : Hid (Chg b (b + 1) w w1) := hc1
  have HB1 : Hid (Chg b (b + 1) w1 (w1.alloc (.cells #[] 45))) := (Chg.refl _ _ _).allocT _ _
  have HO1 : Hid ((w1.alloc (.cells #[] 45)).ownsRow w1.heap.size 45 4 (.slice (some ⟨w1.heap.size, 0, none⟩) 0 0) 0 (flat mtRL.f [])) := World.ownsRow_lit (base := w1.heap.size) (e := 45) (size := 4) w1 #[] 0 (Nat.le_refl _) (Nat.zero_le _) rfl
  have HSZ : Hid (w.heap.size ≤ w1.heap.size ∧ b < w1.heap.size) := ⟨hc1.size, by have := HBL.out; have := hc1.size; omega⟩
  clear ho1 hs1 hc1 HD
  go_upto_region 4 with fail
  go_loopw [6, 7] (fun s i wr => ∃ (k g c : Nat) (l : List Mt), i = .int .i64 (k : Int) ∧ s = .slice (some ⟨g, 0, none⟩) k c ∧ k ≤ ms.length ∧ l.length = k ∧ Hid (wr.ownsRow w1.heap.size 45 4 (.slice (some ⟨g, 0, none⟩) k c) k (flat mtRL.f l)) ∧ Hid (SrcP base b (m + 1000 + 4 * k) wr) ∧ Hid (Chg b (b + 1) w1 wr)) (fun _ i _ => ms.length - (intOf i).toNat)
  case atStart => exact ⟨0, _, _, [], rfl, rfl, Nat.zero_le _, rfl, HO1, HS1, HB1⟩
  case round =>
    clear HO1 HS1 HB1
    obtain ⟨k, g, c, l, rfl, rfl, hk, hlk, HO, HS, HB⟩ := hrel
    have HLK := Lib.hid hlk
    clear hlk
    by_cases hlt : k < ms.length
    · have hkI : (k : Int) < (ms.length : Int) := by omega
      obtain ⟨x, hx⟩ : ∃ x, x = ms[k] := ⟨_, rfl⟩
      have hxk : ms[k]? = some x := by rw [hx]; exact List.getElem?_eq_getElem hlt
      have HXC : Hid (∀ V, Chg b (b + 1) w1 V → V.cell? ⟨gm, k * 2, none⟩ = some (.int .i64 x.a) ∧ V.cell? ⟨gm, k * 2 + 1, none⟩ = some (.int .i64 x.b)) := fun V hV => by
        have ho := own_chg HMS.out hV (by have := HBL.out; omega)
        have h0 := own_item mgF_len ho hxk 0 (.int .i64 x.a) (by decide) rfl
        have h1 := own_item mgF_len ho hxk 1 (.int .i64 x.b) (by decide) rfl
        exact ⟨h0, h1⟩
      have HCD : Hid (Chg b (b + 1) w1 wr.drew) := HB.out.trans (Chg.ofBelow (Below.refl _ _).drew)
      have HSD : Hid (SrcP base b (m + 1000 + 4 * k) wr.drew) := HS.out.below (Below.refl _ _).drew
      have HOD : Hid (wr.drew.ownsRow w1.heap.size 45 4 (.slice (some ⟨g, 0, none⟩) k c) k (flat mtRL.f l)) := own_below HO.out (Below.refl _ _).drew (Nat.le_refl _)
      obtain ⟨x0, x1⟩ := HXC.out _ HCD.out
      have HSS := Lib.hid (And.intro x0 x1)
      clear hx hxk HO HS HB x0 x1
      go_wp2_with fail
      refine heldH (S := fun V => V.cell? ⟨gm, k * 2, none⟩ = some (.int .i64 x.a) ∧ V.cell? ⟨gm, k * 2 + 1, none⟩ = some (.int .i64 x.b)) (n := 19) (listed := #[false, false, false, false, false, false, false, false, false, false, false, false, false, false, false, false, false, false, false]) (by kernel_rfl) (by rfl) (by rfl) ?_ (fun hHeld => ?_)
      (focus ((try dsimp only); (first | done | ((first | exact HSS5.out | exact HSS4.out | exact HSS3.out | exact HSS2.out | exact HSS.out); done))))
      (refine takeH (i := 0) (v := ?_) (by decide +kernel) (by decide +kernel) (by kernel_rfl) (by rfl) (by exact fun _ _ _ h => h) (by rfl) ?_ (by assumption) ?_); rotate_left; (focus (intro w hSw; (try dsimp only at hSw); go_simp; (try with_reducible rfl); done)); (try simp only [Act.put, List.setIfInBounds_toArray, List.set_cons_zero, List.set_cons_succ])
      (refine takeH (i := 1) (v := ?_) (by decide +kernel) (by decide +kernel) (by kernel_rfl) (by rfl) (by exact fun _ _ _ h => h) (by rfl) ?_ (by assumption) ?_); rotate_left; (focus (intro w hSw; (try dsimp only at hSw); go_simp; (try with_reducible rfl); done)); (try simp only [Act.put, List.setIfInBounds_toArray, List.set_cons_zero, List.set_cons_succ])
      (refine takeH (i := 2) (v := ?_) (by decide +kernel) (by decide +kernel) (by kernel_rfl) (by rfl) (by exact fun _ _ _ h => h) (by rfl) ?_ (by assumption) ?_); rotate_left; (focus (intro w hSw; (try dsimp only at hSw); go_simp; (try with_reducible rfl); done)); (try simp only [Act.put, List.setIfInBounds_toArray, List.set_cons_zero, List.set_cons_succ])
      (refine takeH (i := 3) (v := ?_) (by decide +kernel) (by decide +kernel) (by kernel_rfl) (by rfl) (by exact fun _ _ _ h => h) (by rfl) ?_ (by assumption) ?_); rotate_left; (focus (intro w hSw; (try dsimp only at hSw); go_simp; (try with_reducible rfl); done)); (try simp only [Act.put, List.setIfInBounds_toArray, List.set_cons_zero, List.set_cons_succ])
      (refine takeH (i := 4) (v := ?_) (by decide +kernel) (by decide +kernel) (by kernel_rfl) (by rfl) (by exact fun _ _ _ h => h) (by rfl) ?_ (by assumption) ?_); rotate_left; (focus (intro w hSw; (try dsimp only at hSw); go_simp; (try with_reducible rfl); done)); (try simp only [Act.put, List.setIfInBounds_toArray, List.set_cons_zero, List.set_cons_succ])
      (refine takeH (i := 5) (v := ?_) (by decide +kernel) (by decide +kernel) (by kernel_rfl) (by rfl) (by exact fun _ _ _ h => h) (by rfl) ?_ (by assumption) ?_); rotate_left; (focus (intro w hSw; (try dsimp only at hSw); go_simp; (try with_reducible rfl); done)); (try simp only [Act.put, List.setIfInBounds_toArray, List.set_cons_zero, List.set_cons_succ])
      (refine takeH (i := 6) (v := ?_) (by decide +kernel) (by decide +kernel) (by kernel_rfl) (by rfl) (by exact fun _ _ _ h => h) (by rfl) ?_ (by assumption) ?_); rotate_left; (focus (intro w hSw; (try dsimp only at hSw); go_simp; (try with_reducible rfl); done)); (try simp only [Act.put, List.setIfInBounds_toArray, List.set_cons_zero, List.set_cons_succ])
      (refine takeH (i := 7) (v := ?_) (by decide +kernel) (by decide +kernel) (by kernel_rfl) (by rfl) (by exact fun _ _ _ h => h) (by rfl) ?_ (by assumption) ?_); rotate_left; (focus (intro w hSw; (try dsimp only at hSw); go_simp; (try with_reducible rfl); done)); (try simp only [Act.put, List.setIfInBounds_toArray, List.set_cons_zero, List.set_cons_succ])
      (refine takeH (i := 8) (v := ?_) (by decide +kernel) (by decide +kernel) (by kernel_rfl) (by rfl) (by exact fun _ _ _ h => h) (by rfl) ?_ (by assumption) ?_); rotate_left; (focus (intro w hSw; (try dsimp only at hSw); go_simp; (try with_reducible rfl); done)); (try simp only [Act.put, List.setIfInBounds_toArray, List.set_cons_zero, List.set_cons_succ])
      (refine takeH (i := 9) (v := ?_) (by decide +kernel) (by decide +kernel) (by kernel_rfl) (by rfl) (by exact fun _ _ _ h => h) (by rfl) ?_ (by assumption) ?_); rotate_left; (focus (intro w hSw; (try dsimp only at hSw); go_simp; (try with_reducible rfl); done)); (try simp only [Act.put, List.setIfInBounds_toArray, List.set_cons_zero, List.set_cons_succ])
      (refine takeH (i := 10) (v := ?_) (by decide +kernel) (by decide +kernel) (by kernel_rfl) (by rfl) (by exact fun _ _ _ h => h) (by rfl) ?_ (by assumption) ?_); rotate_left; (focus (intro w hSw; (try dsimp only at hSw); go_simp; (try with_reducible rfl); done)); (try simp only [Act.put, List.setIfInBounds_toArray, List.set_cons_zero, List.set_cons_succ])
      (refine takeH (i := 11) (v := ?_) (by decide +kernel) (by decide +kernel) (by kernel_rfl) (by rfl) (by exact fun _ _ _ h => h) (by rfl) ?_ (by assumption) ?_); rotate_left; (focus (intro w hSw; (try dsimp only at hSw); go_simp; (try with_reducible rfl); done)); (try simp only [Act.put, List.setIfInBounds_toArray, List.set_cons_zero, List.set_cons_succ])
      (refine takeH (i := 13) (v := ?_) (by decide +kernel) (by decide +kernel) (by kernel_rfl) (by rfl) (by exact fun _ _ _ h => h) (by rfl) ?_ (by assumption) ?_); rotate_left; (focus (intro w hSw; (try dsimp only at hSw); go_simp; (try with_reducible rfl); done)); (try simp only [Act.put, List.setIfInBounds_toArray, List.set_cons_zero, List.set_cons_succ])
      refine nextH (i := 12) (by decide +kernel) (by rfl) (by rfl) (fun K hK => ?_)
      (go_simp; go_at_call 71; (refine (pick_c base b _ 3 _ HSD.out (by omega) (by omega)).mono ?_); (rintro e w2 ⟨u, rfl, hu0, hu1, hs2, hc2⟩); (have HC2 : Hid (Chg b (b + 1) w1 w2) := HCD.out.trans hc2); (have HS2 := Lib.hid hs2); (have HO2 : Hid (w2.ownsRow w1.heap.size 45 4 (.slice (some ⟨g, 0, none⟩) k c) k (flat mtRL.f l)) := own_chg HOD.out hc2 (by have := HSZ.out; omega)); (clear hs2 hc2); (have HSS2 := Lib.hid (HXC.out _ HC2.out)))
      refine hK.out _ _ ?_ (fun hHeld' => ?_)
      (focus ((try dsimp only); (first | done | ((first | exact HSS5.out | exact HSS4.out | exact HSS3.out | exact HSS2.out | exact HSS.out); done))))
      clear hK K hHeld
      have hHeld := hHeld'
      clear hHeld'
      (try simp only [Act.put, List.setIfInBounds_toArray, List.set_cons_zero, List.set_cons_succ])
      refine nextH (i := 14) (by decide +kernel) (by rfl) (by rfl) (fun K hK => ?_)
      (go_simp; go_at_call 72; (refine (one_c base b _ 6 _ HS2.out (by omega) (by omega)).mono ?_); (rintro e w3 ⟨ff, rfl, hs3, hc3⟩); (have HC3 : Hid (Chg b (b + 1) w1 w3) := HC2.out.trans hc3); (have HS3 : Hid (SrcP base b (m + 1000 + 4 * (k + 1)) w3) := hs3.mono (by omega)); (have HO3 : Hid (w3.ownsRow w1.heap.size 45 4 (.slice (some ⟨g, 0, none⟩) k c) k (flat mtRL.f l)) := own_chg HO2.out hc3 (by have := HSZ.out; omega)); (clear hs3 hc3); (have HSS3 := Lib.hid (HXC.out _ HC3.out)))
      refine hK.out _ _ ?_ (fun hHeld' => ?_)
      (focus ((try dsimp only); (first | done | ((first | exact HSS5.out | exact HSS4.out | exact HSS3.out | exact HSS2.out | exact HSS.out); done))))
      clear hK K hHeld
      have hHeld := hHeld'
      clear hHeld'
      (try simp only [Act.put, List.setIfInBounds_toArray, List.set_cons_zero, List.set_cons_succ])
      (refine takeH (i := 15) (v := ?_) (by decide +kernel) (by decide +kernel) (by kernel_rfl) (by rfl) (by exact fun _ _ _ h => h) (by rfl) ?_ (by assumption) ?_); rotate_left; (focus (intro w hSw; (try dsimp only at hSw); go_simp; (try with_reducible rfl); done)); (try simp only [Act.put, List.setIfInBounds_toArray, List.set_cons_zero, List.set_cons_succ])
      refine nextH (i := 16) (by decide +kernel) (by rfl) (by rfl) (fun K hK => ?_)
      (go_simp; (have HBX : Hid (BoxP w3.heap.size [.int .i64 x.a, .int .i64 x.b, .int .i64 u, .bool ff] (w3.alloc (.cells #[.int .i64 x.a, .int .i64 x.b, .int .i64 u, .bool ff] 45))) := ((Fr.start w3).alloc #[.int .i64 x.a, .int .i64 x.b, .int .i64 u, .bool ff] 45).at 0 rfl); (have HO4 : Hid ((w3.alloc (.cells #[.int .i64 x.a, .int .i64 x.b, .int .i64 u, .bool ff] 45)).ownsRow w1.heap.size 45 4 (.slice (some ⟨g, 0, none⟩) k c) k (flat mtRL.f l)) := own_below HO3.out (below_alloc1 _ _) (Nat.le_refl _)); (have HS4 : Hid (SrcP base b (m + 1000 + 4 * (k + 1)) (w3.alloc (.cells #[.int .i64 x.a, .int .i64 x.b, .int .i64 u, .bool ff] 45))) := HS3.out.below (below_alloc1 _ _)); (have HC4 : Hid (Chg b (b + 1) w1 (w3.alloc (.cells #[.int .i64 x.a, .int .i64 x.b, .int .i64 u, .bool ff] 45))) := HC3.out.allocT _ _); (have HSS4 := Lib.hid (HXC.out _ HC4.out)))
      refine hK.out _ _ ?_ (fun hHeld' => ?_)
      (focus ((try dsimp only); (first | done | ((first | exact HSS5.out | exact HSS4.out | exact HSS3.out | exact HSS2.out | exact HSS.out); done))))
      clear hK K hHeld
      have hHeld := hHeld'
      clear hHeld'
      (try simp only [Act.put, List.setIfInBounds_toArray, List.set_cons_zero, List.set_cons_succ])
      refine nextH (i := 17) (by decide +kernel) (by rfl) (by rfl) (fun K hK => ?_)
      (refine wp_append_lies _ _ _ 33 rfl w1.heap.size 45 i0 _ 4 32 Tryd.underlying33 hi hz0 hz1 hz2 rfl (by decide) _ _ _ rfl HO4.out ⟨w3.heap.size, 0, none⟩ 1 1 [.int .i64 x.a, .int .i64 x.b, .int .i64 u, .bool ff] rfl rfl (fun j u hu => by rw [addr_addT, Nat.zero_add]; exact HBX.out j u hu) (by intro u hu; simp at hu; rcases hu with rfl | rfl | rfl | rfl <;> rfl) (by decide) (by unfold maxLen; omega) (by omega) HC4.out.size _ rfl ?_; (intro g6 c6 w6 ho6 hg6 hat6 hlt6); (have HO6 : Hid (w6.ownsRow w1.heap.size 45 4 (.slice (some ⟨g6, 0, none⟩) (k + 1) c6) (k + 1) (flat mtRL.f (l ++ [⟨x.a, x.b, u, ff⟩]))) := by (unfold Hid; rw [flat_append, flat_one]; exact ho6)); (have HS6 : Hid (SrcP base b (m + 1000 + 4 * (k + 1)) w6) := HS4.out.grown hg6 (fun q hq => by have := (HO4.out.lt q hq).1; have := HSZ.out; omega)); (have HC6 : Hid (Chg b (b + 1) w1 w6) := HC4.out.grown hg6 (fun q hq => (HO4.out.lt q hq).1)); (clear ho6 hg6 hat6 hlt6); (have HSS5 := Lib.hid (HXC.out _ HC6.out)))
      refine hK.out _ _ ?_ (fun hHeld' => ?_)
      (focus ((try dsimp only); (first | done | ((first | exact HSS5.out | exact HSS4.out | exact HSS3.out | exact HSS2.out | exact HSS.out); done))))
      clear hK K hHeld
      have hHeld := hHeld'
      clear hHeld'
      (try simp only [Act.put, List.setIfInBounds_toArray, List.set_cons_zero, List.set_cons_succ])
      (refine takeH (i := 18) (v := ?_) (by decide +kernel) (by decide +kernel) (by kernel_rfl) (by rfl) (by exact fun _ _ _ h => h) (by rfl) ?_ (by assumption) ?_); rotate_left; (focus (intro w hSw; (try dsimp only at hSw); go_simp; (try with_reducible rfl); done)); (try simp only [Act.put, List.setIfInBounds_toArray, List.set_cons_zero, List.set_cons_succ])
      refine wpAnyH_done (by decide +kernel) ?_ _
      clear hHeld HO4 HS4 HC4 HBX HO3 HS3 HC3 HO2 HS2 HC2 HSS HSS2 HSS3 HSS4 HSS5 hu0 hu1
      have HL6 : Hid ((l ++ [(⟨x.a, x.b, u, ff⟩ : Mt)]).length = k + 1) := by unfold Hid; rw [List.length_append, HLK.out]; rfl
      go_wp2
      go_roundw
      case rel => exact ⟨k + 1, g6, c6, _, by go_num, rfl, by omega, HL6.out, HO6, HS6, HC6⟩
      case measure => simp [intOf]; omega
    · have hkI : ¬ (k : Int) < (ms.length : Int) := by omega
      have hkm : k = ms.length := by omega
      have HKL : Hid (k ≤ 300) := by unfold Hid; omega
      clear hk hlt hkm hl1 HMS
      by_cases hk0 : 0 < k
      · have hk0I : (0 : Int) < (k : Int) := by omega
        go_wp2_with fail
        refine (one_c base b _ 24 wr HS.out (by have := HKL.out; omega) (by omega)).mono ?_
        rintro e w2 ⟨v, rfl, hs2, hc2⟩
        have HS2 := Lib.hid hs2
        have HB2 : Hid (Chg b (b + 1) w1 w2) := HB.out.trans hc2
        have HO2 : Hid (w2.ownsRow w1.heap.size 45 4 (.slice (some ⟨g, 0, none⟩) k c) k (flat mtRL.f l)) := own_chg HO.out hc2 (by have := HSZ.out; omega)
        clear hs2 hc2 HS HB HO
        cases v
        · have HE : Hid (l.length = k ∧ w2.ownsRow w1.heap.size 45 4 (.slice (some ⟨g, 0, none⟩) k c) k (flat mtRL.f l) ∧ SrcP base b (m + 4000) w2 ∧ Chg b (b + 1) w w2) := ⟨HLK.out, HO2.out, HS2.out.mono (by have := HKL.out; omega), HCW.out.trans HB2.out⟩
          clear HO2 HS2 HB2 HLK
          go_wp2
          go_ret
          obtain ⟨e1, e2, e3, e4⟩ := HE.out
          subst e1
          have hp := mt_pcs e2
          exact ⟨g, c, l, rfl, HKL.out, ⟨fun q hq => ownsRow_le (hp.all q hq) HSZ.out.1, hp.sep⟩, e3, e4⟩
        · have HSA : Hid (SrcP base b (m + 1000 + 4 * k + 2) (w2.alloc (.cells #[.int .i64 (-1), .int .i64 2, .int .i64 3] 2))) := HS2.out.below (below_alloc1 _ _)
          have HBA : Hid (Chg b (b + 1) w1 (w2.alloc (.cells #[.int .i64 (-1), .int .i64 2, .int .i64 3] 2))) := HB2.out.allocT _ _
          have HOA : Hid ((w2.alloc (.cells #[.int .i64 (-1), .int .i64 2, .int .i64 3] 2)).ownsRow w1.heap.size 45 4 (.slice (some ⟨g, 0, none⟩) k c) k (flat mtRL.f l)) := own_below HO2.out (below_alloc1 _ _) (Nat.le_refl _)
          have HGA : Hid (BoxP w2.heap.size (([-1, 2, 3] : List Int).map (Value.int .i64)) (w2.alloc (.cells #[.int .i64 (-1), .int .i64 2, .int .i64 3] 2))) := ((Fr.start w2).alloc #[.int .i64 (-1), .int .i64 2, .int .i64 3] 2).at 0 rfl
          have HNE : Hid (w2.heap.size ≠ b) := by have := HS2.out.lt.1; unfold Hid; omega
          clear HS2 HB2 HO2
          go_wp2_with fail
          refine (among_c base b _ w2.heap.size [-1, 2, 3] _ HSA.out (by have := HKL.out; omega) HGA.out HNE.out (by decide) (by decide)).mono ?_
          rintro e w3 ⟨x, hx, rfl, hs3, hc3⟩
          have hS3 : SrcP base b (m + 4000) w3 := hs3.mono (by have := HKL.out; omega)
          have hC3 : Chg b (b + 1) w w3 := HCW.out.trans (HBA.out.trans hc3)
          have ho3 : w3.ownsRow w1.heap.size 45 4 (.slice (some ⟨g, 0, none⟩) k c) k (flat mtRL.f l) := own_chg HOA.out hc3 (by have := HSZ.out; omega)
          have hgg := ho3.lt g rfl
          have hlk := HLK.out
          subst hlk
          have hp3 := (mt_pcs ho3).mk'
          obtain ⟨y, hy⟩ : ∃ y, l[0]? = some y := ⟨_, List.getElem?_eq_getElem hk0⟩
          obtain ⟨q2, f2⟩ : _ ∧ _ := RL.cell hp3 hy (i := 2) (by decide) rfl
          obtain ⟨hst, _⟩ := RL.setField hp3 hy (i := 2) (v := .int .i64 x) (x' := ⟨y.a, y.b, x, y.forfeit⟩) (by decide) rfl rfl
          simp only [show mtRL.n = 4 from rfl, Nat.zero_mul, Nat.zero_add] at q2 f2 hst
          have HE : Hid (Pcs (w3.setCell ⟨g, 2, none⟩ (.int .i64 x)) w1.heap.size (mtRL.pcs (some ⟨g, 0, none⟩) c (l.set 0 ⟨y.a, y.b, x, y.forfeit⟩)) ∧ SrcP base b (m + 4000) (w3.setCell ⟨g, 2, none⟩ (.int .i64 x)) ∧ Chg b (b + 1) w (w3.setCell ⟨g, 2, none⟩ (.int .i64 x))) := by
            refine ⟨hst.1, hS3.chg (lo := g) (hi := g + 1) ⟨rfl, rfl, rfl, by simp, fun k hk hn => Below.heap_setCell _ _ _ k (by simp; omega)⟩ (by have := hS3.lt.2; have := HSZ.out; omega) (by have := HSZ.out; omega), ⟨hC3.os, hC3.tape, hC3.output, by simpa using hC3.size, fun k hk hn => (Below.heap_setCell _ _ _ k (by have := HSZ.out.1; simp; omega)).trans (hC3.block k hk hn)⟩⟩
          have hg3 := hgg.2
          clear hs3 hc3 hS3 hC3 ho3 hp3 hst hy HSA HBA HOA HGA HNE HLK
          go_wp2
          go_ret
          obtain ⟨e2, e3, e4⟩ := HE.out
          exact ⟨g, c, l.set 0 ⟨y.a, y.b, x, y.forfeit⟩, by rw [List.length_set]; rfl, by rw [List.length_set]; exact HKL.out, ⟨fun q hq => ownsRow_le (e2.all q hq) HSZ.out.1, e2.sep⟩, e3, e4⟩
      · have hk0I : ¬ (0 : Int) < (k : Int) := by omega
        have HE : Hid (l.length = k ∧ wr.ownsRow w1.heap.size 45 4 (.slice (some ⟨g, 0, none⟩) k c) k (flat mtRL.f l) ∧ SrcP base b (m + 4000) wr ∧ Chg b (b + 1) w wr) := ⟨HLK.out, HO.out, HS.out.mono (by have := HKL.out; omega), HCW.out.trans HB.out⟩
        clear HO HS HB HLK
        go_wp2
        go_ret
        obtain ⟨e1, e2, e3, e4⟩ := HE.out
        subst e1
        have hp := mt_pcs e2
        exact ⟨g, c, l, rfl, HKL.out, ⟨fun q hq => ownsRow_le (hp.all q hq) HSZ.out.1, hp.sep⟩, e3, e4⟩

theorem l00From_cT (base : Nat) (ca : Option Addr) (cc : Nat) (bs : List Int) (w : World) (h : ByteP base ca bs w) (hb : base ≤ w.heap.size) :
    Calls Tryd.prog 42 #[.slice ca bs.length cc] w fun e w' => e = .returned (.pointer (some ⟨w.heap.size, 0, none⟩)) ∧ SrcP base w.heap.size 0 w' ∧ Below w.heap.size w w' := by
  go_enter Tryd.func42, Tryd.ntmps42
  go_wp2
  go_ret
  have hB := below_alloc1 w (.cells #[.slice ca bs.length cc, .int .i64 0, .int .u64 0] 108)
  exact ⟨rfl, ⟨ca, cc, bs, 0, 0, h.keep (fun k hk => hB.block k (by omega)), Bx.alloc w _ _ rfl, by omega, by omega, hb⟩, hB⟩
/-- a number of players and matches that are drawn -/
def AskRes (w : World) (e : Ending) (w' : World) : Prop := ∃ (n : Int) (a : Option Addr) (c : Nat) (l : List Mt), e = .returned (.tuple #[.int .i64 n, .slice a l.length c]) ∧ l.length ≤ 300 ∧ Pcs w' w.heap.size (mtRL.pcs a c l) ∧ Below w.heap.size w w'
set_option maxRecDepth 100000 in
set_option maxHeartbeats 8000000 in
theorem l26Ask_c (ca : Option Addr) (cc : Nat) (bs : List Int) (w : World) (h : ByteP w.heap.size ca bs w) :
    Calls Tryd.prog 40 #[.slice ca bs.length cc] w (AskRes w) := by
  have HF := Lib.hid (l00From_cT w.heap.size ca cc bs w h (Nat.le_refl _))
  clear h
  go_enter Tryd.func40, Tryd.ntmps40
  go_wp2_with fail
  refine HF.out.mono ?_
  rintro e w1 ⟨rfl, hs1, hb1⟩
  have HS1 := Lib.hid hs1
  have HB1 := Lib.hid hb1
  clear hs1 hb1
  go_wp2_with fail
  refine (l24Number_c _ _ 0 w1 HS1.out (by omega)).mono ?_
  rintro e w2 ⟨n, rfl, hn, hs2, hc2⟩
  have HS2 := Lib.hid hs2
  have HB2 : Hid (Below w.heap.size w w2) := hc2.below HB1.out (Nat.le_refl _)
  clear hs2 hc2
  go_wp2_with fail
  refine (l26Draw_c _ _ _ n w2 HS2.out (by omega) hn).mono ?_
  rintro e w3 ⟨g, c, l, rfl, hl, hp3, _, hc3⟩
  have HE : Hid (Pcs w3 w.heap.size (mtRL.pcs (some ⟨g, 0, none⟩) c l) ∧ Below w.heap.size w w3) := ⟨⟨fun q hq => ownsRow_le (hp3.all q hq) HB2.out.size, hp3.sep⟩, hc3.below HB2.out (Nat.le_refl _)⟩
  clear hp3 hc3 HS1 HS2 HF
  go_wp2
  go_ret2
  exact ⟨n, _, _, l, rfl, hl, HE.out.1, HE.out.2⟩

theorem DrawCrossTable_c (ca : Option Addr) (cc : Nat) (bs : List Int) (w : World) (h : ByteP w.heap.size ca bs w) :
    Calls Tryd.prog 19 #[.slice ca bs.length cc] w (AskRes w) := by
  have HF := Lib.hid (l26Ask_c ca cc bs w h)
  clear h
  go_enter Tryd.func19, Tryd.ntmps19
  go_wp2_with fail
  refine HF.out.mono ?_
  rintro e w1 ⟨n, a, c, l, rfl, hl, hp, hb⟩
  have HE := Lib.hid (And.intro hp hb)
  clear hp hb HF
  go_wp2
  go_ret2
  exact ⟨n, _, _, l, rfl, hl, HE.out.1, HE.out.2⟩

end Go.Proofs.YtbjgigdkbjabaaaDoor
