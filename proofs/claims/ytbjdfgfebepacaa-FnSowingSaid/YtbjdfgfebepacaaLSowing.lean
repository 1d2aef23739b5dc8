/- The law FnSowing returns true for every argument, and every argument reads afterwards as before. No conditions. -/
import Derived.Test.YtbjdfgfebepacaaSowL
import Derived.Test.YtbjdfgfebepacaaSMove
import Derived.Test.YtbjdfgfebepacaaMov2
import Derived.Test.YtbjdfgfebepacaaHeld
import Derived.Deep.CutRange
namespace Go.Proofs.Ytbjdfgfebepacaa.lSowing
set_option linter.unusedSimpArgs false
set_option linter.unusedVariables false
set_option linter.unnecessarySimpa false
open Go.RowKit Go.ChangeShapes Go.WideShapes Go.ChangeAt Go.Joins
open Go.ChangeMaps (open_string)

/-- a row that lies in the blocks below hi -/
def RowA (hi : Nat) (a : Option Addr) (xs : List Int) : World → Prop := fun W => Ints W a xs ∧ ∀ b o t, a = some ⟨b, o, t⟩ → 0 < xs.length → b < hi
theorem RowA.stab (hi : Nat) (a : Option Addr) (xs : List Int) : Stab 0 hi (RowA hi a xs) := fun w w' h hk =>
  ⟨fun j v hv => by
    obtain ⟨b, o, e, hc⟩ := h.1 j v hv
    have hl : j < (xs.map (Value.int .i64)).length := (List.getElem?_eq_some_iff.1 hv).1
    exact ⟨b, o, e, cell_stab hc (hk b (Nat.zero_le _) (h.2 b o none e (by simp at hl; omega)))⟩, h.2⟩
theorem fr_row {w0 w : World} {ls : List Res} (h : Fr w0 w ls) {a : Option Addr} {xs : List Int} (hr : Ints w a xs) : Fr w0 w (⟨0, w.heap.size, RowA w.heap.size a xs⟩ :: ls) :=
  h.add _ _ _ (RowA.stab _ _ _) ⟨hr, fun b o t e hp => by
    obtain ⟨b', o', e', hb, _⟩ := Ints.at hr hp
    rw [e] at e'; cases e'; exact hb⟩ (Nat.le_refl _)
theorem two_at {w : World} {a : Option Addr} {p q : Int} (h : Ints w a [p, q]) : ∃ b off, a = some ⟨b, off, none⟩ ∧ b < w.heap.size ∧ w.cell? ⟨b, off, none⟩ = some (.int .i64 p) ∧ w.cell? ⟨b, off + 1, none⟩ = some (.int .i64 q) := by
  obtain ⟨b, o, ha, hb, hc⟩ := Row.at h (by simp)
  exact ⟨b, o, ha, hb, hc 0 _ rfl, hc 1 _ rfl⟩
theorem cntS_next {T : List Int} {k : Nat} (h : k < T.length) : cntS (T.take (k + 1)) = cntS (T.take k) + if T[k] = -1 then 1 else 0 := by
  rw [List.take_succ_eq_append_getElem h, cntS_snoc]
theorem cntS_bd (T : List Int) : 0 ≤ cntS T ∧ cntS T ≤ T.length := by
  unfold cntS
  have := List.count_le_length (a := (-1 : Int)) (l := T)
  omega
set_option maxRecDepth 100000 in
set_option maxHeartbeats 32000000 in
theorem walk (ca da : Option Addr) (cc dc : Nat) (bs ds : List Int) (w : World) (hm1 : bs.length ≤ maxLen) (hm2 : ds.length ≤ maxLen) (hb : bs.length ≤ 4096 → ByteP w.heap.size ca bs w) (hd : ds.length ≤ 4096 → ByteP w.heap.size da ds w) :
    Calls Try.prog 7 #[.slice ca bs.length cc, .slice da ds.length dc] w fun e w' => e = .returned (.bool true) ∧ Below w.heap.size w w' := by
  by_cases hl : 3000 < (bs.length : Int) ∨ 3000 < (ds.length : Int)
  · have HL : (decide (3000 < (bs.length : Int)) || decide (3000 < (ds.length : Int))) = true := by simpa using hl
    clear hb hd hl
    go_enter Try.func7, Try.ntmps7
    go_wp2_with fail
    refine (a2Long_c ca da _ _ cc dc _ hm1 hm2).mono ?_
    rintro e w1 ⟨rfl, rfl⟩
    rw [HL]
    go_wp2
    go_ret
    exact ⟨rfl, Below.refl _ _⟩
  have HB := Lib.hid (hb (by omega))
  have HD := Lib.hid (hd (by omega))
  have HL : (decide (3000 < (bs.length : Int)) || decide (3000 < (ds.length : Int))) = false := by simp; omega
  clear hb hd hl
  go_enter Try.func7, Try.ntmps7
  go_wp2_with fail
  refine (a2Long_c ca da _ _ cc dc _ hm1 hm2).mono ?_
  rintro e w1 ⟨rfl, rfl⟩
  rw [HL]
  clear hm1 hm2 HL
  go_wp2_with fail
  refine (A2Position_c ca cc bs _ HB.out).mono ?_
  rintro e w2 ⟨r, p, A, rfl, hdr, hdp, ho2, hb2⟩
  have hok := hdp.ok hdr
  have F2 := ((fr_row (fr_row (Fr.start w2) ho2.row.pits) ho2.row.stores).alloc r.cells 25).alloc (p.cells A.pa A.pc A.sa A.sc) 67
  have HW : Hid (∀ W, Below w2.heap.size w2 W → Below w.heap.size w W) := fun W hW => below_next hb2 hW
  have HBD := Lib.hid (HD.out.keep (fun k hk => (HW.out _ F2.below).block k hk))
  obtain ⟨pp, ps, pl⟩ := p
  obtain ⟨A, AC, SA, SC⟩ := A
  dsimp only at F2
  obtain ⟨hb1, hb3, hl1, hl2, hl3⟩ := ok_bds hok
  have hpl : pl = 0 ∨ pl = 1 := by have := hdp.pl; dsimp only at this; omega
  obtain ⟨pu, pv, hps⟩ : ∃ u v, ps = [u, v] := by
    match ps, hl2 with
    | [u, v], _ => exact ⟨u, v, rfl⟩
  subst hps
  obtain ⟨⟨hlo, hhi⟩, _⟩ := P.ok_parts hok
  have HOK := Lib.hid hok
  have HB1 := Lib.hid hb1
  have HB3 := Lib.hid hb3
  have HL3 := Lib.hid hl3
  clear hok hb2 ho2 HB HD hdr hdp hb1 hb3 hl3 hl2
  go_wp2_with fail
  refine (a2At_c w.heap.size da dc ds 0 r.pits _ HBD.out (by omega) (by omega) (by omega) (by omega)).mono ?_
  rintro e w3 ⟨mv, rfl, m0, m1, rfl⟩
  obtain ⟨mn, rfl⟩ : ∃ mn : Nat, mv = mn := ⟨mv.toNat, by omega⟩
  clear HBD
  rcases hpl with rfl | rfl
  · have hold := sowing_hold r ⟨pp, [pu, pv], 0⟩ 0 mn HOK.out rfl (by omega) (by omega)
    have e0 : (0 * r.pits + (mn : Int)).toNat = mn := by omega
    dsimp only at hold
    rw [e0] at hold
    have hfl : mn < pp.length := by have := HL3.out; omega
    have hgd : pp.getD mn 0 = pp[mn] := by rw [List.getD_eq_getElem?_getD]; simp [hfl]
    rw [hgd] at hold
    clear hgd e0
    obtain ⟨y, hy⟩ : ∃ y, y = lapR r ⟨pp, [pu, pv], 0⟩ mn := ⟨_, rfl⟩
    obtain ⟨z, hz⟩ : ∃ z, z = moveP r ⟨pp, [pu, pv], 0⟩ mn := ⟨_, rfl⟩
    obtain ⟨t, ht⟩ : ∃ t, t = pathP r ⟨pp, [pu, pv], 0⟩ mn := ⟨_, rfl⟩
    have M1 := fun W h => iSowLap_c r ⟨pp, [pu, pv], 0⟩ mn A SA AC SC W h (by dsimp only; omega) (by simp)
    have M2 := fun W h => iSowMove_c r ⟨pp, [pu, pv], 0⟩ mn A SA AC SC W h (by dsimp only; omega) (by simp)
    have M3 := fun W h => iSowPath_c r ⟨pp, [pu, pv], 0⟩ mn A SA AC SC W h (by dsimp only; omega) (by simp)
    have M4 := fun W h => iIsEndless_c r ⟨pp, [pu, pv], 0⟩ mn A SA AC SC W h (by dsimp only; omega) (by simp)
    rw [← hy] at M1 hold
    rw [← hz] at M2 hold
    rw [← ht] at M3 hold
    have M1 := Lib.hid M1
    have M2 := Lib.hid M2
    have M3 := Lib.hid M3
    clear hy hz ht
    have HO := Lib.hid hold
    clear hold
    go_wp2_with fail
    refine (M1.out _ ⟨(F2.at 3 rfl).1, (F2.at 2 rfl).1⟩).mono ?_
    rintro e w4 ⟨B, rfl, ho, hb⟩
    have G4 := fr_row (fr_row (F2.step hb) ho.row.pits) ho.row.stores
    have F4 := G4.alloc (y.1.cells B) 72
    obtain ⟨c0, c1, c2, c3, c4, c5, c6, c7, c8⟩ := R.boxc (G4.at 3 rfl)
    obtain ⟨d0, d1, d2⟩ := P.boxc (G4.at 2 rfl)
    have zr : w2.heap.size < w4.heap.size := G4.le 3 rfl
    have zp : w2.heap.size + 1 < w4.heap.size := by have := G4.le 2 rfl; simp at this; omega
    simp only [World.size_alloc] at d0 d1 d2
    clear hb ho G4 F2 M1
    go_wp2_with fail
    refine (M2.out _ ⟨(F4.at 6 rfl).1, (F4.at 5 rfl).1⟩).mono ?_
    rintro e w5 ⟨D, rfl, ho, hb⟩
    have G5 := fr_row (fr_row (F4.step hb) ho.row.pits) ho.row.stores
    have F5 := G5.alloc (z.1.cells D) 72
    clear c0 c1 c2 c3 c4 c5 c6 c7 c8 d0 d1 d2 zr zp
    obtain ⟨c0, c1, c2, c3, c4, c5, c6, c7, c8⟩ := R.boxc (G5.at 6 rfl)
    obtain ⟨d0, d1, d2⟩ := P.boxc (G5.at 5 rfl)
    have zr : w2.heap.size < w5.heap.size := G5.le 6 rfl
    have zp : w2.heap.size + 1 < w5.heap.size := by have := G5.le 5 rfl; simp at this; omega
    simp only [World.size_alloc] at d0 d1 d2
    clear hb ho G5 F4 M2
    go_wp2_with fail
    refine (M3.out _ ⟨(F5.at 9 rfl).1, (F5.at 8 rfl).1⟩).mono ?_
    rintro e w6 ⟨ta, tc, rfl, ho, hb⟩
    have F6 := fr_row (F5.step hb) (own_row ho)
    clear c0 c1 c2 c3 c4 c5 c6 c7 c8 d0 d1 d2 zr zp hb ho F5 M3
    obtain ⟨c0, c1, c2, c3, c4, c5, c6, c7, c8⟩ := R.boxc (F6.at 8 rfl)
    obtain ⟨d0, d1, d2⟩ := P.boxc (F6.at 7 rfl)
    have zr : w2.heap.size < w6.heap.size := F6.le 8 rfl
    have zp : w2.heap.size + 1 < w6.heap.size := by have := F6.le 7 rfl; simp at this; omega
    simp only [World.size_alloc] at d0 d1 d2
    obtain ⟨bp, op, hpa, hbp, kp⟩ := Ints.at (F6.at 10 rfl).1 hfl
    subst hpa
    rcases HO.out with ⟨hz0, hc1, hc2, hc3⟩ | ⟨hz0, hc1, hsum, hlap, hc3, hend, hrest, hlok⟩
    · obtain ⟨y, yc⟩ := y
      obtain ⟨z, zc⟩ := z
      obtain ⟨t, tc2⟩ := t
      dsimp only at hc1 hc2 hc3
      subst hc1 hc2 hc3
      rw [hz0] at kp
      clear hz0 HO
      go_wp2
      go_ret
      exact ⟨rfl, HW.out _ F6.below⟩
    obtain ⟨⟨lp, ls, ll, lm⟩, yc⟩ := y
    obtain ⟨z1, zc⟩ := z
    obtain ⟨tl, tcc⟩ := t
    dsimp only at hz0 hc1 hsum hlap hc3 hend hrest hlok F6
    subst hc1 hlap hc3
    have hz0b : (pp[mn] == 0) = false := by simpa using hz0
    obtain ⟨bl1, bl2, bl3, bl4, _⟩ := ok_bds hlok
    have C1 := fun W h => SownSeeds_c ⟨lp, ls, ll, 1⟩ B W h bl1 bl2 bl3 (by show ls.length ≤ 100; omega) (by show 0 < ls.length; omega)
    have C2 := fun W h => a2All_c ⟨pp, [pu, pv], 0⟩ (some ⟨bp, op, none⟩) SA AC SC W h HB1.out HB3.out (by dsimp only; omega) (by simp)
    dsimp only at C1 C2
    rw [hsum] at C1
    rw [hend] at M4
    obtain ⟨tot, hT⟩ : ∃ t, t = pp.sum + [pu, pv].sum := ⟨_, rfl⟩
    rw [← hT] at C1 C2
    have C1 := Lib.hid C1
    have C2 := Lib.hid C2
    have BL := Lib.hid bl4
    clear hz0 hsum hend hlok bl1 bl2 bl3 bl4 HO
    obtain ⟨l0, l1, l2, l3⟩ := (⟨F6.at 4 rfl 0 _ rfl, F6.at 4 rfl 1 _ rfl, F6.at 4 rfl 2 _ rfl, F6.at 4 rfl 3 _ rfl⟩ : _ ∧ _ ∧ _ ∧ _)
    have zl : w4.heap.size < w6.heap.size := F6.le 4 rfl
    have S6 : Hid (w6.drew.cell? ⟨w2.heap.size, 0, none⟩ = some (.int .i64 r.pits) ∧ w6.drew.cell? ⟨w2.heap.size, 1, none⟩ = some (.int .i64 r.seeds) ∧ w6.drew.cell? ⟨w2.heap.size, 2, none⟩ = some (.bool r.stores) ∧ w6.drew.cell? ⟨w2.heap.size, 3, none⟩ = some (.bool r.skip) ∧ w6.drew.cell? ⟨w2.heap.size, 4, none⟩ = some (.bool r.relay) ∧ w6.drew.cell? ⟨w2.heap.size, 5, none⟩ = some (.bool r.feed) ∧ w6.drew.cell? ⟨w2.heap.size, 6, none⟩ = some (.bool r.again) ∧ w6.drew.cell? ⟨w2.heap.size, 7, none⟩ = some (.int .i64 r.capture) ∧ w6.drew.cell? ⟨w2.heap.size, 8, none⟩ = some (.int .i64 r.slam) ∧ w6.drew.cell? ⟨w2.heap.size + 1, 0, none⟩ = some (.slice (some ⟨bp, op, none⟩) pp.length AC) ∧ w6.drew.cell? ⟨w2.heap.size + 1, 1, none⟩ = some (.slice SA 2 SC) ∧ w6.drew.cell? ⟨w2.heap.size + 1, 2, none⟩ = some (.int .i64 0) ∧ w6.drew.cell? ⟨w4.heap.size, 0, none⟩ = some (.slice B.pa lp.length B.pc) ∧ w6.drew.cell? ⟨w4.heap.size, 1, none⟩ = some (.slice B.sa ls.length B.sc) ∧ w6.drew.cell? ⟨w4.heap.size, 2, none⟩ = some (.int .i64 ll) ∧ w6.drew.cell? ⟨w4.heap.size, 3, none⟩ = some (.int .i64 1)) := (And.intro (c0) (And.intro (c1) (And.intro (c2) (And.intro (c3) (And.intro (c4) (And.intro (c5) (And.intro (c6) (And.intro (c7) (And.intro (c8) (And.intro (d0) (And.intro (d1) (And.intro (d2) (And.intro (l0) (And.intro (l1) (And.intro (l2) (l3))))))))))))))))
    rcases hrest with ⟨hz10, hrel⟩ | ⟨hz00, hso, hsame⟩
    · subst hz10
      rw [decide_eq_true rfl] at M4
      have M5 := Lib.hid M4
      have HREL := Lib.hid hrel
      clear M4 hrel
      go_upto_region 10 with fail
      refine heldH (S := fun W => W.cell? ⟨w2.heap.size, 0, none⟩ = some (.int .i64 r.pits) ∧ W.cell? ⟨w2.heap.size, 1, none⟩ = some (.int .i64 r.seeds) ∧ W.cell? ⟨w2.heap.size, 2, none⟩ = some (.bool r.stores) ∧ W.cell? ⟨w2.heap.size, 3, none⟩ = some (.bool r.skip) ∧ W.cell? ⟨w2.heap.size, 4, none⟩ = some (.bool r.relay) ∧ W.cell? ⟨w2.heap.size, 5, none⟩ = some (.bool r.feed) ∧ W.cell? ⟨w2.heap.size, 6, none⟩ = some (.bool r.again) ∧ W.cell? ⟨w2.heap.size, 7, none⟩ = some (.int .i64 r.capture) ∧ W.cell? ⟨w2.heap.size, 8, none⟩ = some (.int .i64 r.slam) ∧ W.cell? ⟨w2.heap.size + 1, 0, none⟩ = some (.slice (some ⟨bp, op, none⟩) pp.length AC) ∧ W.cell? ⟨w2.heap.size + 1, 1, none⟩ = some (.slice SA 2 SC) ∧ W.cell? ⟨w2.heap.size + 1, 2, none⟩ = some (.int .i64 0) ∧ W.cell? ⟨w4.heap.size, 0, none⟩ = some (.slice B.pa lp.length B.pc) ∧ W.cell? ⟨w4.heap.size, 1, none⟩ = some (.slice B.sa ls.length B.sc) ∧ W.cell? ⟨w4.heap.size, 2, none⟩ = some (.int .i64 ll) ∧ W.cell? ⟨w4.heap.size, 3, none⟩ = some (.int .i64 1)) (n := 28) (listed := #[false, false, false, false, false, false, false, false, false, false, false, false, false, false, false, false, false, false, false, false, false, false, false, false, false, false, false, false]) (by kernel_rfl) (by rfl) (by rfl) ?_ (fun hHeld => ?_)
      (focus ((try dsimp only); (first | done | ((first | (with_reducible exact S9.out) | (with_reducible exact S8.out) | (with_reducible exact S7.out) | (with_reducible exact S6.out)); done))))
      (refine takeH (i := 0) (v := ?_) (by decide +kernel) (by decide +kernel) (by kernel_rfl) (by rfl) (by exact fun _ _ _ h => h) (by rfl) ?_ (by assumption) ?_); rotate_left; (focus (intro w hSw; (try dsimp only at hSw); go_simp; (try with_reducible rfl); done)); (try simp only [Act.put, List.setIfInBounds_toArray, List.set_cons_zero, List.set_cons_succ])
      (refine takeH (i := 1) (v := ?_) (by decide +kernel) (by decide +kernel) (by kernel_rfl) (by rfl) (by exact fun _ _ _ h => h) (by rfl) ?_ (by assumption) ?_); rotate_left; (focus (intro w hSw; (try dsimp only at hSw); go_simp; (try with_reducible rfl); done)); (try simp only [Act.put, List.setIfInBounds_toArray, List.set_cons_zero, List.set_cons_succ])
      (refine takeH (i := 2) (v := ?_) (by decide +kernel) (by decide +kernel) (by kernel_rfl) (by rfl) (by exact fun _ _ _ h => h) (by rfl) ?_ (by assumption) ?_); rotate_left; (focus (intro w hSw; (try dsimp only at hSw); go_simp; (try with_reducible rfl); done)); (try simp only [Act.put, List.setIfInBounds_toArray, List.set_cons_zero, List.set_cons_succ])
      (refine takeH (i := 3) (v := ?_) (by decide +kernel) (by decide +kernel) (by kernel_rfl) (by rfl) (by exact fun _ _ _ h => h) (by rfl) ?_ (by assumption) ?_); rotate_left; (focus (intro w hSw; (try dsimp only at hSw); go_simp; (try with_reducible rfl); done)); (try simp only [Act.put, List.setIfInBounds_toArray, List.set_cons_zero, List.set_cons_succ])
      (refine takeH (i := 5) (v := ?_) (by decide +kernel) (by decide +kernel) (by kernel_rfl) (by rfl) (by exact fun _ _ _ h => h) (by rfl) ?_ (by assumption) ?_); rotate_left; (focus (intro w hSw; (try dsimp only at hSw); go_simp; (try with_reducible rfl); done)); (try simp only [Act.put, List.setIfInBounds_toArray, List.set_cons_zero, List.set_cons_succ])
      refine nextH (i := 4) (by decide +kernel) (by rfl) (by rfl) (fun K hK => ?_)
      (go_simp; go_at_call 56; (refine (C1.out _ ⟨(F6.drew.at 6 rfl).1, (F6.drew.at 5 rfl).1⟩).mono ?_); (rintro e w7 ⟨rfl, hb7⟩); (have hc7 := (bcell hb7).1); (have S7 := Lib.hid (And.intro ((hc7 _ _ zr).trans S6.out.1) (And.intro ((hc7 _ _ zr).trans S6.out.2.1) (And.intro ((hc7 _ _ zr).trans S6.out.2.2.1) (And.intro ((hc7 _ _ zr).trans S6.out.2.2.2.1) (And.intro ((hc7 _ _ zr).trans S6.out.2.2.2.2.1) (And.intro ((hc7 _ _ zr).trans S6.out.2.2.2.2.2.1) (And.intro ((hc7 _ _ zr).trans S6.out.2.2.2.2.2.2.1) (And.intro ((hc7 _ _ zr).trans S6.out.2.2.2.2.2.2.2.1) (And.intro ((hc7 _ _ zr).trans S6.out.2.2.2.2.2.2.2.2.1) (And.intro ((hc7 _ _ zp).trans S6.out.2.2.2.2.2.2.2.2.2.1) (And.intro ((hc7 _ _ zp).trans S6.out.2.2.2.2.2.2.2.2.2.2.1) (And.intro ((hc7 _ _ zp).trans S6.out.2.2.2.2.2.2.2.2.2.2.2.1) (And.intro ((hc7 _ _ zl).trans S6.out.2.2.2.2.2.2.2.2.2.2.2.2.1) (And.intro ((hc7 _ _ zl).trans S6.out.2.2.2.2.2.2.2.2.2.2.2.2.2.1) (And.intro ((hc7 _ _ zl).trans S6.out.2.2.2.2.2.2.2.2.2.2.2.2.2.2.1) ((hc7 _ _ zl).trans S6.out.2.2.2.2.2.2.2.2.2.2.2.2.2.2.2))))))))))))))))); (have y7 : w6.heap.size ≤ w7.heap.size := hb7.size); (have F7 := F6.drew.step hb7); clear hb7 hc7)
      refine hK.out _ _ ?_ (fun hHeld' => ?_)
      (focus ((try dsimp only); (first | done | ((first | (with_reducible exact S9.out) | (with_reducible exact S8.out) | (with_reducible exact S7.out) | (with_reducible exact S6.out)); done))))
      clear hK K hHeld
      have hHeld := hHeld'
      clear hHeld'
      (try simp only [Act.put, List.setIfInBounds_toArray, List.set_cons_zero, List.set_cons_succ])
      refine nextH (i := 6) (by decide +kernel) (by rfl) (by rfl) (fun K hK => ?_)
      (go_simp; go_at_call 57; (refine (C2.out _ ⟨(F7.at 10 rfl).1, (F7.at 9 rfl).1⟩).mono ?_); (rintro e w8 ⟨rfl, hb8⟩); (have hc8 := (bcell hb8).1); (have S8 := Lib.hid (And.intro ((hc8 _ _ (Nat.lt_of_lt_of_le zr y7)).trans S7.out.1) (And.intro ((hc8 _ _ (Nat.lt_of_lt_of_le zr y7)).trans S7.out.2.1) (And.intro ((hc8 _ _ (Nat.lt_of_lt_of_le zr y7)).trans S7.out.2.2.1) (And.intro ((hc8 _ _ (Nat.lt_of_lt_of_le zr y7)).trans S7.out.2.2.2.1) (And.intro ((hc8 _ _ (Nat.lt_of_lt_of_le zr y7)).trans S7.out.2.2.2.2.1) (And.intro ((hc8 _ _ (Nat.lt_of_lt_of_le zr y7)).trans S7.out.2.2.2.2.2.1) (And.intro ((hc8 _ _ (Nat.lt_of_lt_of_le zr y7)).trans S7.out.2.2.2.2.2.2.1) (And.intro ((hc8 _ _ (Nat.lt_of_lt_of_le zr y7)).trans S7.out.2.2.2.2.2.2.2.1) (And.intro ((hc8 _ _ (Nat.lt_of_lt_of_le zr y7)).trans S7.out.2.2.2.2.2.2.2.2.1) (And.intro ((hc8 _ _ (Nat.lt_of_lt_of_le zp y7)).trans S7.out.2.2.2.2.2.2.2.2.2.1) (And.intro ((hc8 _ _ (Nat.lt_of_lt_of_le zp y7)).trans S7.out.2.2.2.2.2.2.2.2.2.2.1) (And.intro ((hc8 _ _ (Nat.lt_of_lt_of_le zp y7)).trans S7.out.2.2.2.2.2.2.2.2.2.2.2.1) (And.intro ((hc8 _ _ (Nat.lt_of_lt_of_le zl y7)).trans S7.out.2.2.2.2.2.2.2.2.2.2.2.2.1) (And.intro ((hc8 _ _ (Nat.lt_of_lt_of_le zl y7)).trans S7.out.2.2.2.2.2.2.2.2.2.2.2.2.2.1) (And.intro ((hc8 _ _ (Nat.lt_of_lt_of_le zl y7)).trans S7.out.2.2.2.2.2.2.2.2.2.2.2.2.2.2.1) ((hc8 _ _ (Nat.lt_of_lt_of_le zl y7)).trans S7.out.2.2.2.2.2.2.2.2.2.2.2.2.2.2.2))))))))))))))))); (have y8 : w6.heap.size ≤ w8.heap.size := Nat.le_trans y7 hb8.size); (have F8 := F7.step hb8); clear hb8 hc8)
      refine hK.out _ _ ?_ (fun hHeld' => ?_)
      (focus ((try dsimp only); (first | done | ((first | (with_reducible exact S9.out) | (with_reducible exact S8.out) | (with_reducible exact S7.out) | (with_reducible exact S6.out)); done))))
      clear hK K hHeld
      have hHeld := hHeld'
      clear hHeld'
      (try simp only [Act.put, List.setIfInBounds_toArray, List.set_cons_zero, List.set_cons_succ])
      (refine takeH (i := 7) (v := ?_) (by decide +kernel) (by decide +kernel) (by kernel_rfl) (by rfl) (by exact fun _ _ _ h => h) (by rfl) ?_ (by assumption) ?_); rotate_left; (focus (intro w hSw; (try dsimp only at hSw); go_simp; (try with_reducible rfl); done)); (try simp only [Act.put, List.setIfInBounds_toArray, List.set_cons_zero, List.set_cons_succ])
      (refine takeH (i := 8) (v := ?_) (by decide +kernel) (by decide +kernel) (by kernel_rfl) (by rfl) (by exact fun _ _ _ h => h) (by rfl) ?_ (by assumption) ?_); rotate_left; (focus (intro w hSw; (try dsimp only at hSw); go_simp; (try with_reducible rfl); done)); (try simp only [Act.put, List.setIfInBounds_toArray, List.set_cons_zero, List.set_cons_succ])
      (refine takeH (i := 9) (v := ?_) (by decide +kernel) (by decide +kernel) (by kernel_rfl) (by rfl) (by exact fun _ _ _ h => h) (by rfl) ?_ (by assumption) ?_); rotate_left; (focus (intro w hSw; (try dsimp only at hSw); go_simp; (try with_reducible rfl); done)); (try simp only [Act.put, List.setIfInBounds_toArray, List.set_cons_zero, List.set_cons_succ])
      (refine takeH (i := 10) (v := ?_) (by decide +kernel) (by decide +kernel) (by kernel_rfl) (by rfl) (by exact fun _ _ _ h => h) (by rfl) ?_ (by assumption) ?_); rotate_left; (focus (intro w hSw; (try dsimp only at hSw); go_simp; (try with_reducible rfl); done)); (try simp only [Act.put, List.setIfInBounds_toArray, List.set_cons_zero, List.set_cons_succ])
      (refine takeH (i := 11) (v := ?_) (by decide +kernel) (by decide +kernel) (by kernel_rfl) (by rfl) (by exact fun _ _ _ h => h) (by rfl) ?_ (by assumption) ?_); rotate_left; (focus (intro w hSw; (try dsimp only at hSw); go_simp; (try with_reducible rfl); done)); (try simp only [Act.put, List.setIfInBounds_toArray, List.set_cons_zero, List.set_cons_succ])
      (refine takeH (i := 12) (v := ?_) (by decide +kernel) (by decide +kernel) (by kernel_rfl) (by rfl) (by exact fun _ _ _ h => h) (by rfl) ?_ (by assumption) ?_); rotate_left; (focus (intro w hSw; (try dsimp only at hSw); go_simp; (try with_reducible rfl); done)); (try simp only [Act.put, List.setIfInBounds_toArray, List.set_cons_zero, List.set_cons_succ])
      (refine takeH (i := 13) (v := ?_) (by decide +kernel) (by decide +kernel) (by kernel_rfl) (by rfl) (by exact fun _ _ _ h => h) (by rfl) ?_ (by assumption) ?_); rotate_left; (focus (intro w hSw; (try dsimp only at hSw); go_simp; (try with_reducible rfl); done)); (try simp only [Act.put, List.setIfInBounds_toArray, List.set_cons_zero, List.set_cons_succ])
      (refine takeH (i := 14) (v := ?_) (by decide +kernel) (by decide +kernel) (by kernel_rfl) (by rfl) (by exact fun _ _ _ h => h) (by rfl) ?_ (by assumption) ?_); rotate_left; (focus (intro w hSw; (try dsimp only at hSw); go_simp; (try with_reducible rfl); done)); (try simp only [Act.put, List.setIfInBounds_toArray, List.set_cons_zero, List.set_cons_succ])
      (refine takeH (i := 15) (v := ?_) (by decide +kernel) (by decide +kernel) (by kernel_rfl) (by rfl) (by exact fun _ _ _ h => h) (by rfl) ?_ (by assumption) ?_); rotate_left; (focus (intro w hSw; (try dsimp only at hSw); go_simp; (try with_reducible rfl); done)); (try simp only [Act.put, List.setIfInBounds_toArray, List.set_cons_zero, List.set_cons_succ])
      (refine takeH (i := 16) (v := ?_) (by decide +kernel) (by decide +kernel) (by kernel_rfl) (by rfl) (by exact fun _ _ _ h => h) (by rfl) ?_ (by assumption) ?_); rotate_left; (focus (intro w hSw; (try dsimp only at hSw); go_simp; (try with_reducible rfl); done)); (try simp only [Act.put, List.setIfInBounds_toArray, List.set_cons_zero, List.set_cons_succ])
      (refine takeH (i := 17) (v := ?_) (by decide +kernel) (by decide +kernel) (by kernel_rfl) (by rfl) (by exact fun _ _ _ h => h) (by rfl) ?_ (by assumption) ?_); rotate_left; (focus (intro w hSw; (try dsimp only at hSw); go_simp; (try with_reducible rfl); done)); (try simp only [Act.put, List.setIfInBounds_toArray, List.set_cons_zero, List.set_cons_succ])
      (refine takeH (i := 18) (v := ?_) (by decide +kernel) (by decide +kernel) (by kernel_rfl) (by rfl) (by exact fun _ _ _ h => h) (by rfl) ?_ (by assumption) ?_); rotate_left; (focus (intro w hSw; (try dsimp only at hSw); go_simp; (try with_reducible rfl); done)); (try simp only [Act.put, List.setIfInBounds_toArray, List.set_cons_zero, List.set_cons_succ])
      (refine takeH (i := 19) (v := ?_) (by decide +kernel) (by decide +kernel) (by kernel_rfl) (by rfl) (by exact fun _ _ _ h => h) (by rfl) ?_ (by assumption) ?_); rotate_left; (focus (intro w hSw; (try dsimp only at hSw); go_simp; (try with_reducible rfl); done)); (try simp only [Act.put, List.setIfInBounds_toArray, List.set_cons_zero, List.set_cons_succ])
      (refine takeH (i := 20) (v := ?_) (by decide +kernel) (by decide +kernel) (by kernel_rfl) (by rfl) (by exact fun _ _ _ h => h) (by rfl) ?_ (by assumption) ?_); rotate_left; (focus (intro w hSw; (try dsimp only at hSw); go_simp; (try with_reducible rfl); done)); (try simp only [Act.put, List.setIfInBounds_toArray, List.set_cons_zero, List.set_cons_succ])
      (refine takeH (i := 21) (v := ?_) (by decide +kernel) (by decide +kernel) (by kernel_rfl) (by rfl) (by exact fun _ _ _ h => h) (by rfl) ?_ (by assumption) ?_); rotate_left; (focus (intro w hSw; (try dsimp only at hSw); go_simp; (try with_reducible rfl); done)); (try simp only [Act.put, List.setIfInBounds_toArray, List.set_cons_zero, List.set_cons_succ])
      (refine takeH (i := 22) (v := ?_) (by decide +kernel) (by decide +kernel) (by kernel_rfl) (by rfl) (by exact fun _ _ _ h => h) (by rfl) ?_ (by assumption) ?_); rotate_left; (focus (intro w hSw; (try dsimp only at hSw); go_simp; (try with_reducible rfl); done)); (try simp only [Act.put, List.setIfInBounds_toArray, List.set_cons_zero, List.set_cons_succ])
      (refine takeH (i := 24) (v := ?_) (by decide +kernel) (by decide +kernel) (by kernel_rfl) (by rfl) (by exact fun _ _ _ h => h) (by rfl) ?_ (by assumption) ?_); rotate_left; (focus (intro w hSw; (try dsimp only at hSw); go_simp; (try with_reducible rfl); done)); (try simp only [Act.put, List.setIfInBounds_toArray, List.set_cons_zero, List.set_cons_succ])
      (refine takeH (i := 25) (v := ?_) (by decide +kernel) (by decide +kernel) (by kernel_rfl) (by rfl) (by exact fun _ _ _ h => h) (by rfl) ?_ (by assumption) ?_); rotate_left; (focus (intro w hSw; (try dsimp only at hSw); go_simp; (try with_reducible rfl); done)); (try simp only [Act.put, List.setIfInBounds_toArray, List.set_cons_zero, List.set_cons_succ])
      refine nextH (i := 23) (by decide +kernel) (by rfl) (by rfl) (fun K hK => ?_)
      (go_simp; go_at_call 58; (refine (M5.out _ ⟨(F8.at 10 rfl).1, (F8.at 9 rfl).1⟩).mono ?_); (rintro e w9 ⟨rfl, hb9⟩); (have hc9 := (bcell hb9).1); (have S9 := Lib.hid (And.intro ((hc9 _ _ (Nat.lt_of_lt_of_le zr y8)).trans S8.out.1) (And.intro ((hc9 _ _ (Nat.lt_of_lt_of_le zr y8)).trans S8.out.2.1) (And.intro ((hc9 _ _ (Nat.lt_of_lt_of_le zr y8)).trans S8.out.2.2.1) (And.intro ((hc9 _ _ (Nat.lt_of_lt_of_le zr y8)).trans S8.out.2.2.2.1) (And.intro ((hc9 _ _ (Nat.lt_of_lt_of_le zr y8)).trans S8.out.2.2.2.2.1) (And.intro ((hc9 _ _ (Nat.lt_of_lt_of_le zr y8)).trans S8.out.2.2.2.2.2.1) (And.intro ((hc9 _ _ (Nat.lt_of_lt_of_le zr y8)).trans S8.out.2.2.2.2.2.2.1) (And.intro ((hc9 _ _ (Nat.lt_of_lt_of_le zr y8)).trans S8.out.2.2.2.2.2.2.2.1) (And.intro ((hc9 _ _ (Nat.lt_of_lt_of_le zr y8)).trans S8.out.2.2.2.2.2.2.2.2.1) (And.intro ((hc9 _ _ (Nat.lt_of_lt_of_le zp y8)).trans S8.out.2.2.2.2.2.2.2.2.2.1) (And.intro ((hc9 _ _ (Nat.lt_of_lt_of_le zp y8)).trans S8.out.2.2.2.2.2.2.2.2.2.2.1) (And.intro ((hc9 _ _ (Nat.lt_of_lt_of_le zp y8)).trans S8.out.2.2.2.2.2.2.2.2.2.2.2.1) (And.intro ((hc9 _ _ (Nat.lt_of_lt_of_le zl y8)).trans S8.out.2.2.2.2.2.2.2.2.2.2.2.2.1) (And.intro ((hc9 _ _ (Nat.lt_of_lt_of_le zl y8)).trans S8.out.2.2.2.2.2.2.2.2.2.2.2.2.2.1) (And.intro ((hc9 _ _ (Nat.lt_of_lt_of_le zl y8)).trans S8.out.2.2.2.2.2.2.2.2.2.2.2.2.2.2.1) ((hc9 _ _ (Nat.lt_of_lt_of_le zl y8)).trans S8.out.2.2.2.2.2.2.2.2.2.2.2.2.2.2.2))))))))))))))))); (have F9 := F8.step hb9); clear hb9 hc9)
      refine hK.out _ _ ?_ (fun hHeld' => ?_)
      (focus ((try dsimp only); (first | done | ((first | (with_reducible exact S9.out) | (with_reducible exact S8.out) | (with_reducible exact S7.out) | (with_reducible exact S6.out)); done))))
      clear hK K hHeld
      have hHeld := hHeld'
      clear hHeld'
      (try simp only [Act.put, List.setIfInBounds_toArray, List.set_cons_zero, List.set_cons_succ])
      (refine takeH (i := 26) (v := ?_) (by decide +kernel) (by decide +kernel) (by kernel_rfl) (by rfl) (by exact fun _ _ _ h => h) (by rfl) ?_ (by assumption) ?_); rotate_left; (focus (intro w hSw; (try dsimp only at hSw); go_simp; (try with_reducible rfl); done)); (try simp only [Act.put, List.setIfInBounds_toArray, List.set_cons_zero, List.set_cons_succ])
      (refine takeH (i := 27) (v := ?_) (by decide +kernel) (by decide +kernel) (by kernel_rfl) (by rfl) (by exact fun _ _ _ h => h) (by rfl) ?_ (by assumption) ?_); rotate_left; (focus (intro w hSw; (try dsimp only at hSw); go_simp; (try with_reducible rfl); done)); (try simp only [Act.put, List.setIfInBounds_toArray, List.set_cons_zero, List.set_cons_succ])
      refine wpAnyH_done (by decide +kernel) ?_ _
      clear hHeld S6 S7 S8 S9 F7 F8 y7 y8 c0 c1 c2 c3 c4 c5 c6 c7 c8 d0 d1 d2 l0 l1 l2 l3 zr zp zl
      obtain ⟨c0, c1, c2, c3, c4, c5, c6, c7, c8⟩ := R.boxc (F9.at 8 rfl)
      rw [HREL.out] at c4
      have zr : w2.heap.size < w9.heap.size := F9.le 8 rfl
      clear F6
      go_wp2
      go_ret
      exact ⟨rfl, HW.out _ F9.below⟩
    · subst hz00
      rw [decide_eq_false (by decide)] at M4
      have M5 := Lib.hid M4
      clear M4
      obtain ⟨zp', zs, zl', zm⟩ := z1
      obtain ⟨hsu, hook, hla, hall, hown, hoth, hlast, hstt, hpt, htl⟩ := hso
      dsimp only at hsu hook hla hall hown hoth hlast hstt hpt htl hsame F6
      obtain ⟨bz1, bz2, bz3, bz4, _⟩ := ok_bds hook
      obtain ⟨zu, zv, hzs⟩ : ∃ u v, zs = [u, v] := by
        match zs, bz4 with
        | [u, v], _ => exact ⟨u, v, rfl⟩
      subst hzs
      have hown2 : zu - pu = cntS tl := hown
      have hoth2 : pv = zv := hoth.symm
      clear hown hoth
      subst hoth2
      have C4 := fun W h => SownSeeds_c ⟨zp', [zu, pv], zl', zm⟩ D W h bz1 bz2 bz3 (by simp) (by simp)
      have C5 := fun W h => sValidSown_c r ⟨zp', [zu, pv], zl', zm⟩ D 0 W h hook hla (by omega) hstt hpt
      dsimp only at C4 C5
      rw [hsu, ← hT] at C4
      have C4 := Lib.hid C4
      have C5 := Lib.hid C5
      have hzb : (0 ≤ zu ∧ zu ≤ 2000) ∧ (0 ≤ pu ∧ pu ≤ 2000) := ⟨bz2 _ (by simp), HB3.out _ (by simp)⟩
      obtain ⟨kk, hkk⟩ : ∃ kk, tl.length = kk + 1 := by
        cases tl with
        | nil => simp at hlast
        | cons x l => exact ⟨l.length, by simp⟩
      have hkl : kk < tl.length := by omega
      have htk : tl[kk] = zl' := by
        rw [List.getLast?_eq_getElem?, hkk] at hlast
        simpa [hkl] using hlast
      have HTK := Lib.hid htk
      have HOWN := Lib.hid hown2
      have HALL := Lib.hid hall
      have HKK := Lib.hid hkk
      have HT2 := Lib.hid hT
      clear hsu hook hla hstt hpt hlast bz1 bz2 bz3 bz4 hall hkk hT htk hown2
      go_upto_region 10 with fail
      refine heldH (S := fun W => W.cell? ⟨w2.heap.size, 0, none⟩ = some (.int .i64 r.pits) ∧ W.cell? ⟨w2.heap.size, 1, none⟩ = some (.int .i64 r.seeds) ∧ W.cell? ⟨w2.heap.size, 2, none⟩ = some (.bool r.stores) ∧ W.cell? ⟨w2.heap.size, 3, none⟩ = some (.bool r.skip) ∧ W.cell? ⟨w2.heap.size, 4, none⟩ = some (.bool r.relay) ∧ W.cell? ⟨w2.heap.size, 5, none⟩ = some (.bool r.feed) ∧ W.cell? ⟨w2.heap.size, 6, none⟩ = some (.bool r.again) ∧ W.cell? ⟨w2.heap.size, 7, none⟩ = some (.int .i64 r.capture) ∧ W.cell? ⟨w2.heap.size, 8, none⟩ = some (.int .i64 r.slam) ∧ W.cell? ⟨w2.heap.size + 1, 0, none⟩ = some (.slice (some ⟨bp, op, none⟩) pp.length AC) ∧ W.cell? ⟨w2.heap.size + 1, 1, none⟩ = some (.slice SA 2 SC) ∧ W.cell? ⟨w2.heap.size + 1, 2, none⟩ = some (.int .i64 0) ∧ W.cell? ⟨w4.heap.size, 0, none⟩ = some (.slice B.pa lp.length B.pc) ∧ W.cell? ⟨w4.heap.size, 1, none⟩ = some (.slice B.sa ls.length B.sc) ∧ W.cell? ⟨w4.heap.size, 2, none⟩ = some (.int .i64 ll) ∧ W.cell? ⟨w4.heap.size, 3, none⟩ = some (.int .i64 1)) (n := 28) (listed := #[false, false, false, false, false, false, false, false, false, false, false, false, false, false, false, false, false, false, false, false, false, false, false, false, false, false, false, false]) (by kernel_rfl) (by rfl) (by rfl) ?_ (fun hHeld => ?_)
      (focus ((try dsimp only); (first | done | ((first | (with_reducible exact S9.out) | (with_reducible exact S8.out) | (with_reducible exact S7.out) | (with_reducible exact S6.out)); done))))
      (refine takeH (i := 0) (v := ?_) (by decide +kernel) (by decide +kernel) (by kernel_rfl) (by rfl) (by exact fun _ _ _ h => h) (by rfl) ?_ (by assumption) ?_); rotate_left; (focus (intro w hSw; (try dsimp only at hSw); go_simp; (try with_reducible rfl); done)); (try simp only [Act.put, List.setIfInBounds_toArray, List.set_cons_zero, List.set_cons_succ])
      (refine takeH (i := 1) (v := ?_) (by decide +kernel) (by decide +kernel) (by kernel_rfl) (by rfl) (by exact fun _ _ _ h => h) (by rfl) ?_ (by assumption) ?_); rotate_left; (focus (intro w hSw; (try dsimp only at hSw); go_simp; (try with_reducible rfl); done)); (try simp only [Act.put, List.setIfInBounds_toArray, List.set_cons_zero, List.set_cons_succ])
      (refine takeH (i := 2) (v := ?_) (by decide +kernel) (by decide +kernel) (by kernel_rfl) (by rfl) (by exact fun _ _ _ h => h) (by rfl) ?_ (by assumption) ?_); rotate_left; (focus (intro w hSw; (try dsimp only at hSw); go_simp; (try with_reducible rfl); done)); (try simp only [Act.put, List.setIfInBounds_toArray, List.set_cons_zero, List.set_cons_succ])
      (refine takeH (i := 3) (v := ?_) (by decide +kernel) (by decide +kernel) (by kernel_rfl) (by rfl) (by exact fun _ _ _ h => h) (by rfl) ?_ (by assumption) ?_); rotate_left; (focus (intro w hSw; (try dsimp only at hSw); go_simp; (try with_reducible rfl); done)); (try simp only [Act.put, List.setIfInBounds_toArray, List.set_cons_zero, List.set_cons_succ])
      (refine takeH (i := 5) (v := ?_) (by decide +kernel) (by decide +kernel) (by kernel_rfl) (by rfl) (by exact fun _ _ _ h => h) (by rfl) ?_ (by assumption) ?_); rotate_left; (focus (intro w hSw; (try dsimp only at hSw); go_simp; (try with_reducible rfl); done)); (try simp only [Act.put, List.setIfInBounds_toArray, List.set_cons_zero, List.set_cons_succ])
      refine nextH (i := 4) (by decide +kernel) (by rfl) (by rfl) (fun K hK => ?_)
      (go_simp; go_at_call 56; (refine (C1.out _ ⟨(F6.drew.at 6 rfl).1, (F6.drew.at 5 rfl).1⟩).mono ?_); (rintro e w7 ⟨rfl, hb7⟩); (have hc7 := (bcell hb7).1); (have S7 := Lib.hid (And.intro ((hc7 _ _ zr).trans S6.out.1) (And.intro ((hc7 _ _ zr).trans S6.out.2.1) (And.intro ((hc7 _ _ zr).trans S6.out.2.2.1) (And.intro ((hc7 _ _ zr).trans S6.out.2.2.2.1) (And.intro ((hc7 _ _ zr).trans S6.out.2.2.2.2.1) (And.intro ((hc7 _ _ zr).trans S6.out.2.2.2.2.2.1) (And.intro ((hc7 _ _ zr).trans S6.out.2.2.2.2.2.2.1) (And.intro ((hc7 _ _ zr).trans S6.out.2.2.2.2.2.2.2.1) (And.intro ((hc7 _ _ zr).trans S6.out.2.2.2.2.2.2.2.2.1) (And.intro ((hc7 _ _ zp).trans S6.out.2.2.2.2.2.2.2.2.2.1) (And.intro ((hc7 _ _ zp).trans S6.out.2.2.2.2.2.2.2.2.2.2.1) (And.intro ((hc7 _ _ zp).trans S6.out.2.2.2.2.2.2.2.2.2.2.2.1) (And.intro ((hc7 _ _ zl).trans S6.out.2.2.2.2.2.2.2.2.2.2.2.2.1) (And.intro ((hc7 _ _ zl).trans S6.out.2.2.2.2.2.2.2.2.2.2.2.2.2.1) (And.intro ((hc7 _ _ zl).trans S6.out.2.2.2.2.2.2.2.2.2.2.2.2.2.2.1) ((hc7 _ _ zl).trans S6.out.2.2.2.2.2.2.2.2.2.2.2.2.2.2.2))))))))))))))))); (have y7 : w6.heap.size ≤ w7.heap.size := hb7.size); (have F7 := F6.drew.step hb7); clear hb7 hc7)
      refine hK.out _ _ ?_ (fun hHeld' => ?_)
      (focus ((try dsimp only); (first | done | ((first | (with_reducible exact S9.out) | (with_reducible exact S8.out) | (with_reducible exact S7.out) | (with_reducible exact S6.out)); done))))
      clear hK K hHeld
      have hHeld := hHeld'
      clear hHeld'
      (try simp only [Act.put, List.setIfInBounds_toArray, List.set_cons_zero, List.set_cons_succ])
      refine nextH (i := 6) (by decide +kernel) (by rfl) (by rfl) (fun K hK => ?_)
      (go_simp; go_at_call 57; (refine (C2.out _ ⟨(F7.at 10 rfl).1, (F7.at 9 rfl).1⟩).mono ?_); (rintro e w8 ⟨rfl, hb8⟩); (have hc8 := (bcell hb8).1); (have S8 := Lib.hid (And.intro ((hc8 _ _ (Nat.lt_of_lt_of_le zr y7)).trans S7.out.1) (And.intro ((hc8 _ _ (Nat.lt_of_lt_of_le zr y7)).trans S7.out.2.1) (And.intro ((hc8 _ _ (Nat.lt_of_lt_of_le zr y7)).trans S7.out.2.2.1) (And.intro ((hc8 _ _ (Nat.lt_of_lt_of_le zr y7)).trans S7.out.2.2.2.1) (And.intro ((hc8 _ _ (Nat.lt_of_lt_of_le zr y7)).trans S7.out.2.2.2.2.1) (And.intro ((hc8 _ _ (Nat.lt_of_lt_of_le zr y7)).trans S7.out.2.2.2.2.2.1) (And.intro ((hc8 _ _ (Nat.lt_of_lt_of_le zr y7)).trans S7.out.2.2.2.2.2.2.1) (And.intro ((hc8 _ _ (Nat.lt_of_lt_of_le zr y7)).trans S7.out.2.2.2.2.2.2.2.1) (And.intro ((hc8 _ _ (Nat.lt_of_lt_of_le zr y7)).trans S7.out.2.2.2.2.2.2.2.2.1) (And.intro ((hc8 _ _ (Nat.lt_of_lt_of_le zp y7)).trans S7.out.2.2.2.2.2.2.2.2.2.1) (And.intro ((hc8 _ _ (Nat.lt_of_lt_of_le zp y7)).trans S7.out.2.2.2.2.2.2.2.2.2.2.1) (And.intro ((hc8 _ _ (Nat.lt_of_lt_of_le zp y7)).trans S7.out.2.2.2.2.2.2.2.2.2.2.2.1) (And.intro ((hc8 _ _ (Nat.lt_of_lt_of_le zl y7)).trans S7.out.2.2.2.2.2.2.2.2.2.2.2.2.1) (And.intro ((hc8 _ _ (Nat.lt_of_lt_of_le zl y7)).trans S7.out.2.2.2.2.2.2.2.2.2.2.2.2.2.1) (And.intro ((hc8 _ _ (Nat.lt_of_lt_of_le zl y7)).trans S7.out.2.2.2.2.2.2.2.2.2.2.2.2.2.2.1) ((hc8 _ _ (Nat.lt_of_lt_of_le zl y7)).trans S7.out.2.2.2.2.2.2.2.2.2.2.2.2.2.2.2))))))))))))))))); (have y8 : w6.heap.size ≤ w8.heap.size := Nat.le_trans y7 hb8.size); (have F8 := F7.step hb8); clear hb8 hc8)
      refine hK.out _ _ ?_ (fun hHeld' => ?_)
      (focus ((try dsimp only); (first | done | ((first | (with_reducible exact S9.out) | (with_reducible exact S8.out) | (with_reducible exact S7.out) | (with_reducible exact S6.out)); done))))
      clear hK K hHeld
      have hHeld := hHeld'
      clear hHeld'
      (try simp only [Act.put, List.setIfInBounds_toArray, List.set_cons_zero, List.set_cons_succ])
      (refine takeH (i := 7) (v := ?_) (by decide +kernel) (by decide +kernel) (by kernel_rfl) (by rfl) (by exact fun _ _ _ h => h) (by rfl) ?_ (by assumption) ?_); rotate_left; (focus (intro w hSw; (try dsimp only at hSw); go_simp; (try with_reducible rfl); done)); (try simp only [Act.put, List.setIfInBounds_toArray, List.set_cons_zero, List.set_cons_succ])
      (refine takeH (i := 8) (v := ?_) (by decide +kernel) (by decide +kernel) (by kernel_rfl) (by rfl) (by exact fun _ _ _ h => h) (by rfl) ?_ (by assumption) ?_); rotate_left; (focus (intro w hSw; (try dsimp only at hSw); go_simp; (try with_reducible rfl); done)); (try simp only [Act.put, List.setIfInBounds_toArray, List.set_cons_zero, List.set_cons_succ])
      (refine takeH (i := 9) (v := ?_) (by decide +kernel) (by decide +kernel) (by kernel_rfl) (by rfl) (by exact fun _ _ _ h => h) (by rfl) ?_ (by assumption) ?_); rotate_left; (focus (intro w hSw; (try dsimp only at hSw); go_simp; (try with_reducible rfl); done)); (try simp only [Act.put, List.setIfInBounds_toArray, List.set_cons_zero, List.set_cons_succ])
      (refine takeH (i := 10) (v := ?_) (by decide +kernel) (by decide +kernel) (by kernel_rfl) (by rfl) (by exact fun _ _ _ h => h) (by rfl) ?_ (by assumption) ?_); rotate_left; (focus (intro w hSw; (try dsimp only at hSw); go_simp; (try with_reducible rfl); done)); (try simp only [Act.put, List.setIfInBounds_toArray, List.set_cons_zero, List.set_cons_succ])
      (refine takeH (i := 11) (v := ?_) (by decide +kernel) (by decide +kernel) (by kernel_rfl) (by rfl) (by exact fun _ _ _ h => h) (by rfl) ?_ (by assumption) ?_); rotate_left; (focus (intro w hSw; (try dsimp only at hSw); go_simp; (try with_reducible rfl); done)); (try simp only [Act.put, List.setIfInBounds_toArray, List.set_cons_zero, List.set_cons_succ])
      (refine takeH (i := 12) (v := ?_) (by decide +kernel) (by decide +kernel) (by kernel_rfl) (by rfl) (by exact fun _ _ _ h => h) (by rfl) ?_ (by assumption) ?_); rotate_left; (focus (intro w hSw; (try dsimp only at hSw); go_simp; (try with_reducible rfl); done)); (try simp only [Act.put, List.setIfInBounds_toArray, List.set_cons_zero, List.set_cons_succ])
      (refine takeH (i := 13) (v := ?_) (by decide +kernel) (by decide +kernel) (by kernel_rfl) (by rfl) (by exact fun _ _ _ h => h) (by rfl) ?_ (by assumption) ?_); rotate_left; (focus (intro w hSw; (try dsimp only at hSw); go_simp; (try with_reducible rfl); done)); (try simp only [Act.put, List.setIfInBounds_toArray, List.set_cons_zero, List.set_cons_succ])
      (refine takeH (i := 14) (v := ?_) (by decide +kernel) (by decide +kernel) (by kernel_rfl) (by rfl) (by exact fun _ _ _ h => h) (by rfl) ?_ (by assumption) ?_); rotate_left; (focus (intro w hSw; (try dsimp only at hSw); go_simp; (try with_reducible rfl); done)); (try simp only [Act.put, List.setIfInBounds_toArray, List.set_cons_zero, List.set_cons_succ])
      (refine takeH (i := 15) (v := ?_) (by decide +kernel) (by decide +kernel) (by kernel_rfl) (by rfl) (by exact fun _ _ _ h => h) (by rfl) ?_ (by assumption) ?_); rotate_left; (focus (intro w hSw; (try dsimp only at hSw); go_simp; (try with_reducible rfl); done)); (try simp only [Act.put, List.setIfInBounds_toArray, List.set_cons_zero, List.set_cons_succ])
      (refine takeH (i := 16) (v := ?_) (by decide +kernel) (by decide +kernel) (by kernel_rfl) (by rfl) (by exact fun _ _ _ h => h) (by rfl) ?_ (by assumption) ?_); rotate_left; (focus (intro w hSw; (try dsimp only at hSw); go_simp; (try with_reducible rfl); done)); (try simp only [Act.put, List.setIfInBounds_toArray, List.set_cons_zero, List.set_cons_succ])
      (refine takeH (i := 17) (v := ?_) (by decide +kernel) (by decide +kernel) (by kernel_rfl) (by rfl) (by exact fun _ _ _ h => h) (by rfl) ?_ (by assumption) ?_); rotate_left; (focus (intro w hSw; (try dsimp only at hSw); go_simp; (try with_reducible rfl); done)); (try simp only [Act.put, List.setIfInBounds_toArray, List.set_cons_zero, List.set_cons_succ])
      (refine takeH (i := 18) (v := ?_) (by decide +kernel) (by decide +kernel) (by kernel_rfl) (by rfl) (by exact fun _ _ _ h => h) (by rfl) ?_ (by assumption) ?_); rotate_left; (focus (intro w hSw; (try dsimp only at hSw); go_simp; (try with_reducible rfl); done)); (try simp only [Act.put, List.setIfInBounds_toArray, List.set_cons_zero, List.set_cons_succ])
      (refine takeH (i := 19) (v := ?_) (by decide +kernel) (by decide +kernel) (by kernel_rfl) (by rfl) (by exact fun _ _ _ h => h) (by rfl) ?_ (by assumption) ?_); rotate_left; (focus (intro w hSw; (try dsimp only at hSw); go_simp; (try with_reducible rfl); done)); (try simp only [Act.put, List.setIfInBounds_toArray, List.set_cons_zero, List.set_cons_succ])
      (refine takeH (i := 20) (v := ?_) (by decide +kernel) (by decide +kernel) (by kernel_rfl) (by rfl) (by exact fun _ _ _ h => h) (by rfl) ?_ (by assumption) ?_); rotate_left; (focus (intro w hSw; (try dsimp only at hSw); go_simp; (try with_reducible rfl); done)); (try simp only [Act.put, List.setIfInBounds_toArray, List.set_cons_zero, List.set_cons_succ])
      (refine takeH (i := 21) (v := ?_) (by decide +kernel) (by decide +kernel) (by kernel_rfl) (by rfl) (by exact fun _ _ _ h => h) (by rfl) ?_ (by assumption) ?_); rotate_left; (focus (intro w hSw; (try dsimp only at hSw); go_simp; (try with_reducible rfl); done)); (try simp only [Act.put, List.setIfInBounds_toArray, List.set_cons_zero, List.set_cons_succ])
      (refine takeH (i := 22) (v := ?_) (by decide +kernel) (by decide +kernel) (by kernel_rfl) (by rfl) (by exact fun _ _ _ h => h) (by rfl) ?_ (by assumption) ?_); rotate_left; (focus (intro w hSw; (try dsimp only at hSw); go_simp; (try with_reducible rfl); done)); (try simp only [Act.put, List.setIfInBounds_toArray, List.set_cons_zero, List.set_cons_succ])
      (refine takeH (i := 24) (v := ?_) (by decide +kernel) (by decide +kernel) (by kernel_rfl) (by rfl) (by exact fun _ _ _ h => h) (by rfl) ?_ (by assumption) ?_); rotate_left; (focus (intro w hSw; (try dsimp only at hSw); go_simp; (try with_reducible rfl); done)); (try simp only [Act.put, List.setIfInBounds_toArray, List.set_cons_zero, List.set_cons_succ])
      (refine takeH (i := 25) (v := ?_) (by decide +kernel) (by decide +kernel) (by kernel_rfl) (by rfl) (by exact fun _ _ _ h => h) (by rfl) ?_ (by assumption) ?_); rotate_left; (focus (intro w hSw; (try dsimp only at hSw); go_simp; (try with_reducible rfl); done)); (try simp only [Act.put, List.setIfInBounds_toArray, List.set_cons_zero, List.set_cons_succ])
      refine nextH (i := 23) (by decide +kernel) (by rfl) (by rfl) (fun K hK => ?_)
      (go_simp; go_at_call 58; (refine (M5.out _ ⟨(F8.at 10 rfl).1, (F8.at 9 rfl).1⟩).mono ?_); (rintro e w9 ⟨rfl, hb9⟩); (have hc9 := (bcell hb9).1); (have S9 := Lib.hid (And.intro ((hc9 _ _ (Nat.lt_of_lt_of_le zr y8)).trans S8.out.1) (And.intro ((hc9 _ _ (Nat.lt_of_lt_of_le zr y8)).trans S8.out.2.1) (And.intro ((hc9 _ _ (Nat.lt_of_lt_of_le zr y8)).trans S8.out.2.2.1) (And.intro ((hc9 _ _ (Nat.lt_of_lt_of_le zr y8)).trans S8.out.2.2.2.1) (And.intro ((hc9 _ _ (Nat.lt_of_lt_of_le zr y8)).trans S8.out.2.2.2.2.1) (And.intro ((hc9 _ _ (Nat.lt_of_lt_of_le zr y8)).trans S8.out.2.2.2.2.2.1) (And.intro ((hc9 _ _ (Nat.lt_of_lt_of_le zr y8)).trans S8.out.2.2.2.2.2.2.1) (And.intro ((hc9 _ _ (Nat.lt_of_lt_of_le zr y8)).trans S8.out.2.2.2.2.2.2.2.1) (And.intro ((hc9 _ _ (Nat.lt_of_lt_of_le zr y8)).trans S8.out.2.2.2.2.2.2.2.2.1) (And.intro ((hc9 _ _ (Nat.lt_of_lt_of_le zp y8)).trans S8.out.2.2.2.2.2.2.2.2.2.1) (And.intro ((hc9 _ _ (Nat.lt_of_lt_of_le zp y8)).trans S8.out.2.2.2.2.2.2.2.2.2.2.1) (And.intro ((hc9 _ _ (Nat.lt_of_lt_of_le zp y8)).trans S8.out.2.2.2.2.2.2.2.2.2.2.2.1) (And.intro ((hc9 _ _ (Nat.lt_of_lt_of_le zl y8)).trans S8.out.2.2.2.2.2.2.2.2.2.2.2.2.1) (And.intro ((hc9 _ _ (Nat.lt_of_lt_of_le zl y8)).trans S8.out.2.2.2.2.2.2.2.2.2.2.2.2.2.1) (And.intro ((hc9 _ _ (Nat.lt_of_lt_of_le zl y8)).trans S8.out.2.2.2.2.2.2.2.2.2.2.2.2.2.2.1) ((hc9 _ _ (Nat.lt_of_lt_of_le zl y8)).trans S8.out.2.2.2.2.2.2.2.2.2.2.2.2.2.2.2))))))))))))))))); (have F9 := F8.step hb9); clear hb9 hc9)
      refine hK.out _ _ ?_ (fun hHeld' => ?_)
      (focus ((try dsimp only); (first | done | ((first | (with_reducible exact S9.out) | (with_reducible exact S8.out) | (with_reducible exact S7.out) | (with_reducible exact S6.out)); done))))
      clear hK K hHeld
      have hHeld := hHeld'
      clear hHeld'
      (try simp only [Act.put, List.setIfInBounds_toArray, List.set_cons_zero, List.set_cons_succ])
      (refine takeH (i := 26) (v := ?_) (by decide +kernel) (by decide +kernel) (by kernel_rfl) (by rfl) (by exact fun _ _ _ h => h) (by rfl) ?_ (by assumption) ?_); rotate_left; (focus (intro w hSw; (try dsimp only at hSw); go_simp; (try with_reducible rfl); done)); (try simp only [Act.put, List.setIfInBounds_toArray, List.set_cons_zero, List.set_cons_succ])
      (refine takeH (i := 27) (v := ?_) (by decide +kernel) (by decide +kernel) (by kernel_rfl) (by rfl) (by exact fun _ _ _ h => h) (by rfl) ?_ (by assumption) ?_); rotate_left; (focus (intro w hSw; (try dsimp only at hSw); go_simp; (try with_reducible rfl); done)); (try simp only [Act.put, List.setIfInBounds_toArray, List.set_cons_zero, List.set_cons_succ])
      refine wpAnyH_done (by decide +kernel) ?_ _
      clear hHeld S6 S7 S8 S9 F7 F8 y7 y8 c0 c1 c2 c3 c4 c5 c6 c7 c8 d0 d1 d2 l0 l1 l2 l3 zr zp zl
      obtain ⟨bt, ot, hta, hbt, kt⟩ := Ints.at (F9.at 0 rfl).1 hkl
      rw [HTK.out] at kt
      have HROW := Lib.hid (fun W (hW : Below w9.heap.size w9 W) => ((F9.at 0 rfl).1 : Ints w9 ta tl).below hW (Nat.le_refl _))
      subst hta
      have zr : w2.heap.size < w9.heap.size := F9.le 8 rfl
      have zp : w2.heap.size + 1 < w9.heap.size := by have := F9.le 7 rfl; simp at this; omega
      have zl : w4.heap.size < w9.heap.size := F9.le 4 rfl
      have zz : w5.heap.size < w9.heap.size := F9.le 1 rfl
      rcases Bool.eq_false_or_eq_true r.relay with hrl | hrl
      · have HRL := Lib.hid hrl
        clear hrl
        obtain ⟨c0, c1, c2, c3, c4, c5, c6, c7, c8⟩ := R.boxc (F9.at 8 rfl)
        obtain ⟨d0, d1, d2⟩ := P.boxc (F9.at 7 rfl)
        simp only [World.size_alloc] at d0 d1 d2
        obtain ⟨l0, l1, l2, l3⟩ := (⟨F9.at 4 rfl 0 _ rfl, F9.at 4 rfl 1 _ rfl, F9.at 4 rfl 2 _ rfl, F9.at 4 rfl 3 _ rfl⟩ : _ ∧ _ ∧ _ ∧ _)
        obtain ⟨z0, z1, z2, z3⟩ := (⟨F9.at 1 rfl 0 _ rfl, F9.at 1 rfl 1 _ rfl, F9.at 1 rfl 2 _ rfl, F9.at 1 rfl 3 _ rfl⟩ : _ ∧ _ ∧ _ ∧ _)
        have S9 : Hid (w9.drew.cell? ⟨w2.heap.size, 0, none⟩ = some (.int .i64 r.pits) ∧ w9.drew.cell? ⟨w2.heap.size, 1, none⟩ = some (.int .i64 r.seeds) ∧ w9.drew.cell? ⟨w2.heap.size, 2, none⟩ = some (.bool r.stores) ∧ w9.drew.cell? ⟨w2.heap.size, 3, none⟩ = some (.bool r.skip) ∧ w9.drew.cell? ⟨w2.heap.size, 4, none⟩ = some (.bool r.relay) ∧ w9.drew.cell? ⟨w2.heap.size, 5, none⟩ = some (.bool r.feed) ∧ w9.drew.cell? ⟨w2.heap.size, 6, none⟩ = some (.bool r.again) ∧ w9.drew.cell? ⟨w2.heap.size, 7, none⟩ = some (.int .i64 r.capture) ∧ w9.drew.cell? ⟨w2.heap.size, 8, none⟩ = some (.int .i64 r.slam) ∧ w9.drew.cell? ⟨w2.heap.size + 1, 0, none⟩ = some (.slice (some ⟨bp, op, none⟩) pp.length AC) ∧ w9.drew.cell? ⟨w2.heap.size + 1, 1, none⟩ = some (.slice SA 2 SC) ∧ w9.drew.cell? ⟨w2.heap.size + 1, 2, none⟩ = some (.int .i64 0) ∧ w9.drew.cell? ⟨w4.heap.size, 0, none⟩ = some (.slice B.pa lp.length B.pc) ∧ w9.drew.cell? ⟨w4.heap.size, 1, none⟩ = some (.slice B.sa ls.length B.sc) ∧ w9.drew.cell? ⟨w4.heap.size, 2, none⟩ = some (.int .i64 ll) ∧ w9.drew.cell? ⟨w4.heap.size, 3, none⟩ = some (.int .i64 1) ∧ w9.drew.cell? ⟨w5.heap.size, 0, none⟩ = some (.slice D.pa zp'.length D.pc) ∧ w9.drew.cell? ⟨w5.heap.size, 1, none⟩ = some (.slice D.sa 2 D.sc) ∧ w9.drew.cell? ⟨w5.heap.size, 2, none⟩ = some (.int .i64 zl') ∧ w9.drew.cell? ⟨w5.heap.size, 3, none⟩ = some (.int .i64 zm) ∧ w9.drew.cell? ⟨bt, ot + kk, none⟩ = some (.int .i64 zl')) := (And.intro (c0) (And.intro (c1) (And.intro (c2) (And.intro (c3) (And.intro (c4) (And.intro (c5) (And.intro (c6) (And.intro (c7) (And.intro (c8) (And.intro (d0) (And.intro (d1) (And.intro (d2) (And.intro (l0) (And.intro (l1) (And.intro (l2) (And.intro (l3) (And.intro (z0) (And.intro (z1) (And.intro (z2) (And.intro (z3) (kt)))))))))))))))))))))
        have hl0 : ((tl.length : Int) == 0) = false := by have : ¬ (tl.length : Int) = 0 := by omega
                                                          simpa using this
        have hkki : (kk : Int) < (tl.length : Int) := by omega
        have wrk : IntKind.i64.wrap ((tl.length : Int) - 1) = (kk : Int) := (IntWalk.i64_in _ (by omega)).trans (by have := HKK.out; omega)
        go_upto_region 14 with fail
        refine heldH (S := fun W => W.cell? ⟨w2.heap.size, 0, none⟩ = some (.int .i64 r.pits) ∧ W.cell? ⟨w2.heap.size, 1, none⟩ = some (.int .i64 r.seeds) ∧ W.cell? ⟨w2.heap.size, 2, none⟩ = some (.bool r.stores) ∧ W.cell? ⟨w2.heap.size, 3, none⟩ = some (.bool r.skip) ∧ W.cell? ⟨w2.heap.size, 4, none⟩ = some (.bool r.relay) ∧ W.cell? ⟨w2.heap.size, 5, none⟩ = some (.bool r.feed) ∧ W.cell? ⟨w2.heap.size, 6, none⟩ = some (.bool r.again) ∧ W.cell? ⟨w2.heap.size, 7, none⟩ = some (.int .i64 r.capture) ∧ W.cell? ⟨w2.heap.size, 8, none⟩ = some (.int .i64 r.slam) ∧ W.cell? ⟨w2.heap.size + 1, 0, none⟩ = some (.slice (some ⟨bp, op, none⟩) pp.length AC) ∧ W.cell? ⟨w2.heap.size + 1, 1, none⟩ = some (.slice SA 2 SC) ∧ W.cell? ⟨w2.heap.size + 1, 2, none⟩ = some (.int .i64 0) ∧ W.cell? ⟨w4.heap.size, 0, none⟩ = some (.slice B.pa lp.length B.pc) ∧ W.cell? ⟨w4.heap.size, 1, none⟩ = some (.slice B.sa ls.length B.sc) ∧ W.cell? ⟨w4.heap.size, 2, none⟩ = some (.int .i64 ll) ∧ W.cell? ⟨w4.heap.size, 3, none⟩ = some (.int .i64 1) ∧ W.cell? ⟨w5.heap.size, 0, none⟩ = some (.slice D.pa zp'.length D.pc) ∧ W.cell? ⟨w5.heap.size, 1, none⟩ = some (.slice D.sa 2 D.sc) ∧ W.cell? ⟨w5.heap.size, 2, none⟩ = some (.int .i64 zl') ∧ W.cell? ⟨w5.heap.size, 3, none⟩ = some (.int .i64 zm) ∧ W.cell? ⟨bt, ot + kk, none⟩ = some (.int .i64 zl')) (n := 40) (listed := #[false, false, false, false, false, false, false, false, false, false, false, false, false, false, false, false, false, false, false, false, false, false, false, false, false, false, false, false, false, false, false, false, false, false, false, false, false, false, false, false]) (by kernel_rfl) (by rfl) (by rfl) ?_ (fun hHeld => ?_)
        (focus ((try dsimp only); (first | done | ((first | (with_reducible exact S13.out) | (with_reducible exact S12.out) | (with_reducible exact S11.out) | (with_reducible exact S10.out) | (with_reducible exact S9.out)); done))))
        (refine takeH (i := 0) (v := ?_) (by decide +kernel) (by decide +kernel) (by kernel_rfl) (by rfl) (by exact fun _ _ _ h => h) (by rfl) ?_ (by assumption) ?_); rotate_left; (focus (intro w hSw; (try dsimp only at hSw); go_simp; (try with_reducible rfl); done)); (try simp only [Act.put, List.setIfInBounds_toArray, List.set_cons_zero, List.set_cons_succ])
        (refine takeH (i := 2) (v := ?_) (by decide +kernel) (by decide +kernel) (by kernel_rfl) (by rfl) (by exact fun _ _ _ h => h) (by rfl) ?_ (by assumption) ?_); rotate_left; (focus (intro w hSw; (try dsimp only at hSw); go_simp; (try with_reducible rfl); done)); (try simp only [Act.put, List.setIfInBounds_toArray, List.set_cons_zero, List.set_cons_succ])
        refine nextH (i := 1) (by decide +kernel) (by rfl) (by rfl) (fun K hK => ?_)
        (go_simp; go_at_call 56; (refine (C4.out _ ⟨(F9.drew.at 3 rfl).1, (F9.drew.at 2 rfl).1⟩).mono ?_); (rintro e w10 ⟨rfl, hb10⟩); (have hc10 := (bcell hb10).1); (have S10 := Lib.hid (And.intro ((hc10 _ _ zr).trans S9.out.1) (And.intro ((hc10 _ _ zr).trans S9.out.2.1) (And.intro ((hc10 _ _ zr).trans S9.out.2.2.1) (And.intro ((hc10 _ _ zr).trans S9.out.2.2.2.1) (And.intro ((hc10 _ _ zr).trans S9.out.2.2.2.2.1) (And.intro ((hc10 _ _ zr).trans S9.out.2.2.2.2.2.1) (And.intro ((hc10 _ _ zr).trans S9.out.2.2.2.2.2.2.1) (And.intro ((hc10 _ _ zr).trans S9.out.2.2.2.2.2.2.2.1) (And.intro ((hc10 _ _ zr).trans S9.out.2.2.2.2.2.2.2.2.1) (And.intro ((hc10 _ _ zp).trans S9.out.2.2.2.2.2.2.2.2.2.1) (And.intro ((hc10 _ _ zp).trans S9.out.2.2.2.2.2.2.2.2.2.2.1) (And.intro ((hc10 _ _ zp).trans S9.out.2.2.2.2.2.2.2.2.2.2.2.1) (And.intro ((hc10 _ _ zl).trans S9.out.2.2.2.2.2.2.2.2.2.2.2.2.1) (And.intro ((hc10 _ _ zl).trans S9.out.2.2.2.2.2.2.2.2.2.2.2.2.2.1) (And.intro ((hc10 _ _ zl).trans S9.out.2.2.2.2.2.2.2.2.2.2.2.2.2.2.1) (And.intro ((hc10 _ _ zl).trans S9.out.2.2.2.2.2.2.2.2.2.2.2.2.2.2.2.1) (And.intro ((hc10 _ _ zz).trans S9.out.2.2.2.2.2.2.2.2.2.2.2.2.2.2.2.2.1) (And.intro ((hc10 _ _ zz).trans S9.out.2.2.2.2.2.2.2.2.2.2.2.2.2.2.2.2.2.1) (And.intro ((hc10 _ _ zz).trans S9.out.2.2.2.2.2.2.2.2.2.2.2.2.2.2.2.2.2.2.1) (And.intro ((hc10 _ _ zz).trans S9.out.2.2.2.2.2.2.2.2.2.2.2.2.2.2.2.2.2.2.2.1) ((hc10 _ _ hbt).trans S9.out.2.2.2.2.2.2.2.2.2.2.2.2.2.2.2.2.2.2.2.2)))))))))))))))))))))); (have y10 : w9.heap.size ≤ w10.heap.size := hb10.size); (have F10 := F9.drew.step hb10); (have K10 : Hid (Below w9.heap.size w9 w10) := (Below.refl _ _).drew.trans hb10); clear hb10 hc10)
        refine hK.out _ _ ?_ (fun hHeld' => ?_)
        (focus ((try dsimp only); (first | done | ((first | (with_reducible exact S13.out) | (with_reducible exact S12.out) | (with_reducible exact S11.out) | (with_reducible exact S10.out) | (with_reducible exact S9.out)); done))))
        clear hK K hHeld
        have hHeld := hHeld'
        clear hHeld'
        (try simp only [Act.put, List.setIfInBounds_toArray, List.set_cons_zero, List.set_cons_succ])
        refine nextH (i := 3) (by decide +kernel) (by rfl) (by rfl) (fun K hK => ?_)
        (go_simp; go_at_call 57; (refine (C2.out _ ⟨(F10.at 10 rfl).1, (F10.at 9 rfl).1⟩).mono ?_); (rintro e w11 ⟨rfl, hb11⟩); (have hc11 := (bcell hb11).1); (have S11 := Lib.hid (And.intro ((hc11 _ _ (Nat.lt_of_lt_of_le zr y10)).trans S10.out.1) (And.intro ((hc11 _ _ (Nat.lt_of_lt_of_le zr y10)).trans S10.out.2.1) (And.intro ((hc11 _ _ (Nat.lt_of_lt_of_le zr y10)).trans S10.out.2.2.1) (And.intro ((hc11 _ _ (Nat.lt_of_lt_of_le zr y10)).trans S10.out.2.2.2.1) (And.intro ((hc11 _ _ (Nat.lt_of_lt_of_le zr y10)).trans S10.out.2.2.2.2.1) (And.intro ((hc11 _ _ (Nat.lt_of_lt_of_le zr y10)).trans S10.out.2.2.2.2.2.1) (And.intro ((hc11 _ _ (Nat.lt_of_lt_of_le zr y10)).trans S10.out.2.2.2.2.2.2.1) (And.intro ((hc11 _ _ (Nat.lt_of_lt_of_le zr y10)).trans S10.out.2.2.2.2.2.2.2.1) (And.intro ((hc11 _ _ (Nat.lt_of_lt_of_le zr y10)).trans S10.out.2.2.2.2.2.2.2.2.1) (And.intro ((hc11 _ _ (Nat.lt_of_lt_of_le zp y10)).trans S10.out.2.2.2.2.2.2.2.2.2.1) (And.intro ((hc11 _ _ (Nat.lt_of_lt_of_le zp y10)).trans S10.out.2.2.2.2.2.2.2.2.2.2.1) (And.intro ((hc11 _ _ (Nat.lt_of_lt_of_le zp y10)).trans S10.out.2.2.2.2.2.2.2.2.2.2.2.1) (And.intro ((hc11 _ _ (Nat.lt_of_lt_of_le zl y10)).trans S10.out.2.2.2.2.2.2.2.2.2.2.2.2.1) (And.intro ((hc11 _ _ (Nat.lt_of_lt_of_le zl y10)).trans S10.out.2.2.2.2.2.2.2.2.2.2.2.2.2.1) (And.intro ((hc11 _ _ (Nat.lt_of_lt_of_le zl y10)).trans S10.out.2.2.2.2.2.2.2.2.2.2.2.2.2.2.1) (And.intro ((hc11 _ _ (Nat.lt_of_lt_of_le zl y10)).trans S10.out.2.2.2.2.2.2.2.2.2.2.2.2.2.2.2.1) (And.intro ((hc11 _ _ (Nat.lt_of_lt_of_le zz y10)).trans S10.out.2.2.2.2.2.2.2.2.2.2.2.2.2.2.2.2.1) (And.intro ((hc11 _ _ (Nat.lt_of_lt_of_le zz y10)).trans S10.out.2.2.2.2.2.2.2.2.2.2.2.2.2.2.2.2.2.1) (And.intro ((hc11 _ _ (Nat.lt_of_lt_of_le zz y10)).trans S10.out.2.2.2.2.2.2.2.2.2.2.2.2.2.2.2.2.2.2.1) (And.intro ((hc11 _ _ (Nat.lt_of_lt_of_le zz y10)).trans S10.out.2.2.2.2.2.2.2.2.2.2.2.2.2.2.2.2.2.2.2.1) ((hc11 _ _ (Nat.lt_of_lt_of_le hbt y10)).trans S10.out.2.2.2.2.2.2.2.2.2.2.2.2.2.2.2.2.2.2.2.2)))))))))))))))))))))); (have y11 : w9.heap.size ≤ w11.heap.size := Nat.le_trans y10 hb11.size); (have F11 := F10.step hb11); (have K11 := Lib.hid (below_next K10.out hb11)); clear hb11 hc11)
        refine hK.out _ _ ?_ (fun hHeld' => ?_)
        (focus ((try dsimp only); (first | done | ((first | (with_reducible exact S13.out) | (with_reducible exact S12.out) | (with_reducible exact S11.out) | (with_reducible exact S10.out) | (with_reducible exact S9.out)); done))))
        clear hK K hHeld
        have hHeld := hHeld'
        clear hHeld'
        (try simp only [Act.put, List.setIfInBounds_toArray, List.set_cons_zero, List.set_cons_succ])
        (refine takeH (i := 4) (v := ?_) (by decide +kernel) (by decide +kernel) (by kernel_rfl) (by rfl) (by exact fun _ _ _ h => h) (by rfl) ?_ (by assumption) ?_); rotate_left; (focus (intro w hSw; (try dsimp only at hSw); go_simp; (try with_reducible rfl); done)); (try simp only [Act.put, List.setIfInBounds_toArray, List.set_cons_zero, List.set_cons_succ])
        (refine takeH (i := 5) (v := ?_) (by decide +kernel) (by decide +kernel) (by kernel_rfl) (by rfl) (by exact fun _ _ _ h => h) (by rfl) ?_ (by assumption) ?_); rotate_left; (focus (intro w hSw; (try dsimp only at hSw); go_simp; (try with_reducible rfl); done)); (try simp only [Act.put, List.setIfInBounds_toArray, List.set_cons_zero, List.set_cons_succ])
        (refine takeH (i := 6) (v := ?_) (by decide +kernel) (by decide +kernel) (by kernel_rfl) (by rfl) (by exact fun _ _ _ h => h) (by rfl) ?_ (by assumption) ?_); rotate_left; (focus (intro w hSw; (try dsimp only at hSw); go_simp; (try with_reducible rfl); done)); (try simp only [Act.put, List.setIfInBounds_toArray, List.set_cons_zero, List.set_cons_succ])
        (refine takeH (i := 7) (v := ?_) (by decide +kernel) (by decide +kernel) (by kernel_rfl) (by rfl) (by exact fun _ _ _ h => h) (by rfl) ?_ (by assumption) ?_); rotate_left; (focus (intro w hSw; (try dsimp only at hSw); go_simp; (try with_reducible rfl); done)); (try simp only [Act.put, List.setIfInBounds_toArray, List.set_cons_zero, List.set_cons_succ])
        (refine takeH (i := 8) (v := ?_) (by decide +kernel) (by decide +kernel) (by kernel_rfl) (by rfl) (by exact fun _ _ _ h => h) (by rfl) ?_ (by assumption) ?_); rotate_left; (focus (intro w hSw; (try dsimp only at hSw); go_simp; (try with_reducible rfl); done)); (try simp only [Act.put, List.setIfInBounds_toArray, List.set_cons_zero, List.set_cons_succ])
        (refine takeH (i := 9) (v := ?_) (by decide +kernel) (by decide +kernel) (by kernel_rfl) (by rfl) (by exact fun _ _ _ h => h) (by rfl) ?_ (by assumption) ?_); rotate_left; (focus (intro w hSw; (try dsimp only at hSw); go_simp; (try with_reducible rfl); done)); (try simp only [Act.put, List.setIfInBounds_toArray, List.set_cons_zero, List.set_cons_succ])
        refine nextH (i := 10) (by decide +kernel) (by rfl) (by rfl) (fun K hK => ?_)
        (go_simp; go_at_call 59; (refine (C5.out _ ⟨(F11.at 3 rfl).1, (F11.at 2 rfl).1⟩).mono ?_); (rintro e w12 ⟨rfl, hb12⟩); (have hc12 := (bcell hb12).1); (have S12 := Lib.hid (And.intro ((hc12 _ _ (Nat.lt_of_lt_of_le zr y11)).trans S11.out.1) (And.intro ((hc12 _ _ (Nat.lt_of_lt_of_le zr y11)).trans S11.out.2.1) (And.intro ((hc12 _ _ (Nat.lt_of_lt_of_le zr y11)).trans S11.out.2.2.1) (And.intro ((hc12 _ _ (Nat.lt_of_lt_of_le zr y11)).trans S11.out.2.2.2.1) (And.intro ((hc12 _ _ (Nat.lt_of_lt_of_le zr y11)).trans S11.out.2.2.2.2.1) (And.intro ((hc12 _ _ (Nat.lt_of_lt_of_le zr y11)).trans S11.out.2.2.2.2.2.1) (And.intro ((hc12 _ _ (Nat.lt_of_lt_of_le zr y11)).trans S11.out.2.2.2.2.2.2.1) (And.intro ((hc12 _ _ (Nat.lt_of_lt_of_le zr y11)).trans S11.out.2.2.2.2.2.2.2.1) (And.intro ((hc12 _ _ (Nat.lt_of_lt_of_le zr y11)).trans S11.out.2.2.2.2.2.2.2.2.1) (And.intro ((hc12 _ _ (Nat.lt_of_lt_of_le zp y11)).trans S11.out.2.2.2.2.2.2.2.2.2.1) (And.intro ((hc12 _ _ (Nat.lt_of_lt_of_le zp y11)).trans S11.out.2.2.2.2.2.2.2.2.2.2.1) (And.intro ((hc12 _ _ (Nat.lt_of_lt_of_le zp y11)).trans S11.out.2.2.2.2.2.2.2.2.2.2.2.1) (And.intro ((hc12 _ _ (Nat.lt_of_lt_of_le zl y11)).trans S11.out.2.2.2.2.2.2.2.2.2.2.2.2.1) (And.intro ((hc12 _ _ (Nat.lt_of_lt_of_le zl y11)).trans S11.out.2.2.2.2.2.2.2.2.2.2.2.2.2.1) (And.intro ((hc12 _ _ (Nat.lt_of_lt_of_le zl y11)).trans S11.out.2.2.2.2.2.2.2.2.2.2.2.2.2.2.1) (And.intro ((hc12 _ _ (Nat.lt_of_lt_of_le zl y11)).trans S11.out.2.2.2.2.2.2.2.2.2.2.2.2.2.2.2.1) (And.intro ((hc12 _ _ (Nat.lt_of_lt_of_le zz y11)).trans S11.out.2.2.2.2.2.2.2.2.2.2.2.2.2.2.2.2.1) (And.intro ((hc12 _ _ (Nat.lt_of_lt_of_le zz y11)).trans S11.out.2.2.2.2.2.2.2.2.2.2.2.2.2.2.2.2.2.1) (And.intro ((hc12 _ _ (Nat.lt_of_lt_of_le zz y11)).trans S11.out.2.2.2.2.2.2.2.2.2.2.2.2.2.2.2.2.2.2.1) (And.intro ((hc12 _ _ (Nat.lt_of_lt_of_le zz y11)).trans S11.out.2.2.2.2.2.2.2.2.2.2.2.2.2.2.2.2.2.2.2.1) ((hc12 _ _ (Nat.lt_of_lt_of_le hbt y11)).trans S11.out.2.2.2.2.2.2.2.2.2.2.2.2.2.2.2.2.2.2.2.2)))))))))))))))))))))); (have y12 : w9.heap.size ≤ w12.heap.size := Nat.le_trans y11 hb12.size); (have F12 := F11.step hb12); (have K12 := Lib.hid (below_next K11.out hb12)); (have hrl := HRL.out); clear hb12 hc12)
        refine hK.out _ _ ?_ (fun hHeld' => ?_)
        (focus ((try dsimp only); (first | done | ((first | (with_reducible exact S13.out) | (with_reducible exact S12.out) | (with_reducible exact S11.out) | (with_reducible exact S10.out) | (with_reducible exact S9.out)); done))))
        clear hK K hHeld
        have hHeld := hHeld'
        clear hHeld'
        (try simp only [Act.put, List.setIfInBounds_toArray, List.set_cons_zero, List.set_cons_succ])
        (refine takeH (i := 11) (v := ?_) (by decide +kernel) (by decide +kernel) (by kernel_rfl) (by rfl) (by exact fun _ _ _ h => h) (by rfl) ?_ (by assumption) ?_); rotate_left; (focus (intro w hSw; (try dsimp only at hSw); go_simp; (try with_reducible rfl); done)); (try simp only [Act.put, List.setIfInBounds_toArray, List.set_cons_zero, List.set_cons_succ])
        (refine takeH (i := 12) (v := ?_) (by decide +kernel) (by decide +kernel) (by kernel_rfl) (by rfl) (by exact fun _ _ _ h => h) (by rfl) ?_ (by assumption) ?_); rotate_left; (focus (intro w hSw; (try dsimp only at hSw); go_simp; (try with_reducible rfl); done)); (try simp only [Act.put, List.setIfInBounds_toArray, List.set_cons_zero, List.set_cons_succ])
        (refine takeH (i := 13) (v := ?_) (by decide +kernel) (by decide +kernel) (by kernel_rfl) (by rfl) (by exact fun _ _ _ h => h) (by rfl) ?_ (by assumption) ?_); rotate_left; (focus (intro w hSw; (try dsimp only at hSw); go_simp; (try with_reducible rfl); done)); (try simp only [Act.put, List.setIfInBounds_toArray, List.set_cons_zero, List.set_cons_succ])
        (refine takeH (i := 14) (v := ?_) (by decide +kernel) (by decide +kernel) (by kernel_rfl) (by rfl) (by exact fun _ _ _ h => h) (by rfl) ?_ (by assumption) ?_); rotate_left; (focus (intro w hSw; (try dsimp only at hSw); go_simp; (try with_reducible rfl); done)); (try simp only [Act.put, List.setIfInBounds_toArray, List.set_cons_zero, List.set_cons_succ])
        (refine takeH (i := 15) (v := ?_) (by decide +kernel) (by decide +kernel) (by kernel_rfl) (by rfl) (by exact fun _ _ _ h => h) (by rfl) ?_ (by assumption) ?_); rotate_left; (focus (intro w hSw; (try dsimp only at hSw); go_simp; (try with_reducible rfl); done)); (try simp only [Act.put, List.setIfInBounds_toArray, List.set_cons_zero, List.set_cons_succ])
        (refine takeH (i := 16) (v := ?_) (by decide +kernel) (by decide +kernel) (by kernel_rfl) (by rfl) (by exact fun _ _ _ h => h) (by rfl) ?_ (by assumption) ?_); rotate_left; (focus (intro w hSw; (try dsimp only at hSw); go_simp; (try with_reducible rfl); done)); (try simp only [Act.put, List.setIfInBounds_toArray, List.set_cons_zero, List.set_cons_succ])
        (refine takeH (i := 17) (v := ?_) (by decide +kernel) (by decide +kernel) (by kernel_rfl) (by rfl) (by exact fun _ _ _ h => h) (by rfl) ?_ (by assumption) ?_); rotate_left; (focus (intro w hSw; (try dsimp only at hSw); go_simp; (try with_reducible rfl); done)); (try simp only [Act.put, List.setIfInBounds_toArray, List.set_cons_zero, List.set_cons_succ])
        (refine takeH (i := 18) (v := ?_) (by decide +kernel) (by decide +kernel) (by kernel_rfl) (by rfl) (by exact fun _ _ _ h => h) (by rfl) ?_ (by assumption) ?_); rotate_left; (focus (intro w hSw; (try dsimp only at hSw); go_simp; (try with_reducible rfl); done)); (try simp only [Act.put, List.setIfInBounds_toArray, List.set_cons_zero, List.set_cons_succ])
        (refine takeH (i := 19) (v := ?_) (by decide +kernel) (by decide +kernel) (by kernel_rfl) (by rfl) (by exact fun _ _ _ h => h) (by rfl) ?_ (by assumption) ?_); rotate_left; (focus (intro w hSw; (try dsimp only at hSw); go_simp; (try with_reducible rfl); done)); (try simp only [Act.put, List.setIfInBounds_toArray, List.set_cons_zero, List.set_cons_succ])
        (refine takeH (i := 20) (v := ?_) (by decide +kernel) (by decide +kernel) (by kernel_rfl) (by rfl) (by exact fun _ _ _ h => h) (by rfl) ?_ (by assumption) ?_); rotate_left; (focus (intro w hSw; (try dsimp only at hSw); go_simp; (try with_reducible rfl); done)); (try simp only [Act.put, List.setIfInBounds_toArray, List.set_cons_zero, List.set_cons_succ])
        (refine takeH (i := 21) (v := ?_) (by decide +kernel) (by decide +kernel) (by kernel_rfl) (by rfl) (by exact fun _ _ _ h => h) (by rfl) ?_ (by assumption) ?_); rotate_left; (focus (intro w hSw; (try dsimp only at hSw); go_simp; (try with_reducible rfl); done)); (try simp only [Act.put, List.setIfInBounds_toArray, List.set_cons_zero, List.set_cons_succ])
        (refine takeH (i := 22) (v := ?_) (by decide +kernel) (by decide +kernel) (by kernel_rfl) (by rfl) (by exact fun _ _ _ h => h) (by rfl) ?_ (by assumption) ?_); rotate_left; (focus (intro w hSw; (try dsimp only at hSw); go_simp; (try with_reducible rfl); done)); (try simp only [Act.put, List.setIfInBounds_toArray, List.set_cons_zero, List.set_cons_succ])
        (refine takeH (i := 23) (v := ?_) (by decide +kernel) (by decide +kernel) (by kernel_rfl) (by rfl) (by exact fun _ _ _ h => h) (by rfl) ?_ (by assumption) ?_); rotate_left; (focus (intro w hSw; (try dsimp only at hSw); go_simp; (try with_reducible rfl); done)); (try simp only [Act.put, List.setIfInBounds_toArray, List.set_cons_zero, List.set_cons_succ])
        (refine takeH (i := 24) (v := ?_) (by decide +kernel) (by decide +kernel) (by kernel_rfl) (by rfl) (by exact fun _ _ _ h => h) (by rfl) ?_ (by assumption) ?_); rotate_left; (focus (intro w hSw; (try dsimp only at hSw); go_simp; (try with_reducible rfl); done)); (try simp only [Act.put, List.setIfInBounds_toArray, List.set_cons_zero, List.set_cons_succ])
        (refine takeH (i := 25) (v := ?_) (by decide +kernel) (by decide +kernel) (by kernel_rfl) (by rfl) (by exact fun _ _ _ h => h) (by rfl) ?_ (by assumption) ?_); rotate_left; (focus (intro w hSw; (try dsimp only at hSw); go_simp; (try with_reducible rfl); done)); (try simp only [Act.put, List.setIfInBounds_toArray, List.set_cons_zero, List.set_cons_succ])
        (refine takeH (i := 26) (v := ?_) (by decide +kernel) (by decide +kernel) (by kernel_rfl) (by rfl) (by exact fun _ _ _ h => h) (by rfl) ?_ (by assumption) ?_); rotate_left; (focus (intro w hSw; (try dsimp only at hSw); go_simp; (try with_reducible rfl); done)); (try simp only [Act.put, List.setIfInBounds_toArray, List.set_cons_zero, List.set_cons_succ])
        (refine takeH (i := 27) (v := ?_) (by decide +kernel) (by decide +kernel) (by kernel_rfl) (by rfl) (by exact fun _ _ _ h => h) (by rfl) ?_ (by assumption) ?_); rotate_left; (focus (intro w hSw; (try dsimp only at hSw); go_simp; (try with_reducible rfl); done)); (try simp only [Act.put, List.setIfInBounds_toArray, List.set_cons_zero, List.set_cons_succ])
        (refine takeH (i := 28) (v := ?_) (by decide +kernel) (by decide +kernel) (by kernel_rfl) (by rfl) (by exact fun _ _ _ h => h) (by rfl) ?_ (by assumption) ?_); rotate_left; (focus (intro w hSw; (try dsimp only at hSw); go_simp; (try with_reducible rfl); done)); (try simp only [Act.put, List.setIfInBounds_toArray, List.set_cons_zero, List.set_cons_succ])
        (refine takeH (i := 29) (v := ?_) (by decide +kernel) (by decide +kernel) (by kernel_rfl) (by rfl) (by exact fun _ _ _ h => h) (by rfl) ?_ (by assumption) ?_); rotate_left; (focus (intro w hSw; (try dsimp only at hSw); go_simp; (try with_reducible rfl); done)); (try simp only [Act.put, List.setIfInBounds_toArray, List.set_cons_zero, List.set_cons_succ])
        (refine takeH (i := 30) (v := ?_) (by decide +kernel) (by decide +kernel) (by kernel_rfl) (by rfl) (by exact fun _ _ _ h => h) (by rfl) ?_ (by assumption) ?_); rotate_left; (focus (intro w hSw; (try dsimp only at hSw); go_simp; (try with_reducible rfl); done)); (try simp only [Act.put, List.setIfInBounds_toArray, List.set_cons_zero, List.set_cons_succ])
        (refine takeH (i := 31) (v := ?_) (by decide +kernel) (by decide +kernel) (by kernel_rfl) (by rfl) (by exact fun _ _ _ h => h) (by rfl) ?_ (by assumption) ?_); rotate_left; (focus (intro w hSw; (try dsimp only at hSw); go_simp; (try with_reducible rfl); done)); (try simp only [Act.put, List.setIfInBounds_toArray, List.set_cons_zero, List.set_cons_succ])
        (refine takeH (i := 32) (v := ?_) (by decide +kernel) (by decide +kernel) (by kernel_rfl) (by rfl) (by exact fun _ _ _ h => h) (by rfl) ?_ (by assumption) ?_); rotate_left; (focus (intro w hSw; (try dsimp only at hSw); go_simp; (try with_reducible rfl); done)); (try simp only [Act.put, List.setIfInBounds_toArray, List.set_cons_zero, List.set_cons_succ])
        (refine takeH (i := 33) (v := ?_) (by decide +kernel) (by decide +kernel) (by kernel_rfl) (by rfl) (by exact fun _ _ _ h => h) (by rfl) ?_ (by assumption) ?_); rotate_left; (focus (intro w hSw; (try dsimp only at hSw); go_simp; (try with_reducible rfl); done)); (try simp only [Act.put, List.setIfInBounds_toArray, List.set_cons_zero, List.set_cons_succ])
        ((refine skipH (i := 34) (by decide +kernel) (by decide +kernel) (by kernel_rfl) (by rfl) (by exact fun _ _ _ h => h) (by rfl) (by assumption) ?_); (try simp only [Act.put, List.setIfInBounds_toArray, List.set_cons_zero, List.set_cons_succ]))
        ((refine skipH (i := 35) (by decide +kernel) (by decide +kernel) (by kernel_rfl) (by rfl) (by exact fun _ _ _ h => h) (by rfl) (by assumption) ?_); (try simp only [Act.put, List.setIfInBounds_toArray, List.set_cons_zero, List.set_cons_succ]))
        ((refine skipH (i := 36) (by decide +kernel) (by decide +kernel) (by kernel_rfl) (by rfl) (by exact fun _ _ _ h => h) (by rfl) (by assumption) ?_); (try simp only [Act.put, List.setIfInBounds_toArray, List.set_cons_zero, List.set_cons_succ]))
        ((refine skipH (i := 37) (by decide +kernel) (by decide +kernel) (by kernel_rfl) (by rfl) (by exact fun _ _ _ h => h) (by rfl) (by assumption) ?_); (try simp only [Act.put, List.setIfInBounds_toArray, List.set_cons_zero, List.set_cons_succ]))
        (refine takeH (i := 38) (v := ?_) (by decide +kernel) (by decide +kernel) (by kernel_rfl) (by rfl) (by exact fun _ _ _ h => h) (by rfl) ?_ (by assumption) ?_); rotate_left; (focus (intro w hSw; (try dsimp only at hSw); go_simp; (try with_reducible rfl); done)); (try simp only [Act.put, List.setIfInBounds_toArray, List.set_cons_zero, List.set_cons_succ])
        (refine takeH (i := 39) (v := ?_) (by decide +kernel) (by decide +kernel) (by kernel_rfl) (by rfl) (by exact fun _ _ _ h => h) (by rfl) ?_ (by assumption) ?_); rotate_left; (focus (intro w hSw; (try dsimp only at hSw); go_simp; (try with_reducible rfl); done)); (try simp only [Act.put, List.setIfInBounds_toArray, List.set_cons_zero, List.set_cons_succ])
        refine wpAnyH_done (by decide +kernel) ?_ _
        clear hHeld hl0 hkki wrk hrl c0 c1 c2 c3 c4 c5 c6 c7 c8 d0 d1 d2 l0 l1 l2 l3 z0 z1 z2 z3 kt zr zp zl zz S9 S10 S11 S12 F10 F11 F9 F6 K10 K11 y10 y11 y12
        have CW := Lib.hid ((R.boxc (F12.at 8 rfl)).1)
        have ZW := Lib.hid (⟨F12.at 1 rfl 1 _ rfl, by have := F12.at 7 rfl 1 _ rfl; simpa using this, by have := F12.at 7 rfl 2 _ rfl; simpa using this⟩ : w12.cell? ⟨w5.heap.size, 1, none⟩ = some (.slice D.sa 2 D.sc) ∧ w12.cell? ⟨w2.heap.size + 1, 1, none⟩ = some (.slice SA 2 SC) ∧ w12.cell? ⟨w2.heap.size + 1, 2, none⟩ = some (.int .i64 0))
        obtain ⟨bz, oz, hza, hbz, kz0, kz1⟩ := two_at ((F12.at 2 rfl).1 : Ints w12 D.sa [zu, pv])
        obtain ⟨bs_, os_, hsa, hbs, ks0, ks1⟩ := two_at ((F12.at 9 rfl).1 : Ints w12 SA [pu, pv])
        have KZ := Lib.hid (And.intro kz0 (And.intro kz1 (And.intro ks0 ks1)))
        rw [hza, hsa] at ZW
        clear kz0 kz1 ks0 ks1
        go_wp2
        go_loopw [14, 15] (fun sv iv wr => ∃ (j m : Nat), iv = .int .i64 j ∧ sv = .int .i64 (cntS (tl.take j)) ∧ j ≤ tl.length ∧ Hid (wr = w12.drewN m)) (fun _ iv _ => tl.length - (intOf iv).toNat)
        case atStart => exact ⟨0, 0, rfl, rfl, Nat.zero_le _, Lib.hid rfl⟩
        case round =>
          obtain ⟨j, m, rfl, rfl, hj, HWR⟩ := hrel
          have HTR : Hid (Ints wr (some ⟨bt, ot, none⟩) tl) := by unfold Hid; rw [HWR.out]; exact HROW.out _ (K12.out.trans (below_draws _ _ m))
          by_cases hlt : j < tl.length
          · obtain ⟨b9, o9, h9, hb9, k9⟩ := Ints.at HTR.out hlt
            cases h9
            have hq := HALL.out tl[j] (List.getElem_mem hlt)
            have HCN := Lib.hid (cntS_next hlt)
            have hcb := cntS_bd (tl.take j)
            have hcl : (tl.take j).length ≤ 100000 := by simp; omega
            have hcb2 : 0 ≤ cntS (tl.take j) ∧ cntS (tl.take j) ≤ 100000 := by omega
            obtain ⟨q, hqq⟩ : ∃ q, q = tl[j] := ⟨_, rfl⟩
            rw [← hqq] at k9 hq HCN
            clear hqq hcb hcl
            have c0 : wr.cell? ⟨w2.heap.size, 0, none⟩ = some (.int .i64 r.pits) := by rw [HWR.out, World.cell?_drewN]; exact CW.out
            have q1 : decide (q < -1) = false := by simp; omega
            have q2 : decide (2 * r.pits ≤ q) = false := by simp; omega
            have wr1 : IntKind.i64.wrap (2 * r.pits) = 2 * r.pits := IntWalk.i64_in _ (by omega)
            go_wp2
            go_quiet (fail)
            clear wr1
            by_cases hq1 : q = -1
            · have q3 : (q == -1) = true := by simpa using hq1
              have HQ1 := Lib.hid hq1
              clear hq1
              go_wp2
              go_roundw
              case rel => exact ⟨j + 1, _, by go_num, by rw [HCN.out, if_pos HQ1.out], by omega, by unfold Hid; rw [HWR.out]; exact World.drewN_drewN ..⟩
              case measure => simp [intOf]; omega
            · have q3 : (q == -1) = false := by simpa using hq1
              have HQ1 := Lib.hid hq1
              clear hq1
              go_wp2
              go_roundw
              case rel => exact ⟨j + 1, _, by go_num, by rw [HCN.out, if_neg HQ1.out, Int.add_zero], by omega, by unfold Hid; rw [HWR.out]; exact World.drewN_drewN ..⟩
              case measure => simp [intOf]; omega
        
          · obtain rfl : j = tl.length := by omega
            have S24 : Hid (wr.drew.cell? ⟨w5.heap.size, 1, none⟩ = some (.slice (some ⟨bz, oz, none⟩) 2 D.sc) ∧ wr.drew.cell? ⟨w2.heap.size + 1, 1, none⟩ = some (.slice (some ⟨bs_, os_, none⟩) 2 SC) ∧ wr.drew.cell? ⟨w2.heap.size + 1, 2, none⟩ = some (.int .i64 0) ∧ wr.drew.cell? ⟨bz, oz, none⟩ = some (.int .i64 zu) ∧ wr.drew.cell? ⟨bz, oz + 1, none⟩ = some (.int .i64 pv) ∧ wr.drew.cell? ⟨bs_, os_, none⟩ = some (.int .i64 pu) ∧ wr.drew.cell? ⟨bs_, os_ + 1, none⟩ = some (.int .i64 pv)) := by
              unfold Hid
              rw [HWR.out]
              exact ⟨ZW.out.1, ZW.out.2.1, ZW.out.2.2, KZ.out.1, KZ.out.2.1, KZ.out.2.2.1, KZ.out.2.2.2⟩
            have q1 : (zu - pu == cntS tl) = true := by rw [HOWN.out]; simp
            have wr1 : IntKind.i64.wrap 1 = 1 := IntWalk.i64_in _ (by omega)
            have wr2 : IntKind.i64.wrap (zu - pu) = zu - pu := IntWalk.i64_in _ (by omega)
            have hB : Hid (Below w2.heap.size w2 wr) := by unfold Hid; rw [HWR.out]; exact (F12.drawn m).below
            go_upto_region 24 with fail
            refine heldH (S := fun W => W.cell? ⟨w5.heap.size, 1, none⟩ = some (.slice (some ⟨bz, oz, none⟩) 2 D.sc) ∧ W.cell? ⟨w2.heap.size + 1, 1, none⟩ = some (.slice (some ⟨bs_, os_, none⟩) 2 SC) ∧ W.cell? ⟨w2.heap.size + 1, 2, none⟩ = some (.int .i64 0) ∧ W.cell? ⟨bz, oz, none⟩ = some (.int .i64 zu) ∧ W.cell? ⟨bz, oz + 1, none⟩ = some (.int .i64 pv) ∧ W.cell? ⟨bs_, os_, none⟩ = some (.int .i64 pu) ∧ W.cell? ⟨bs_, os_ + 1, none⟩ = some (.int .i64 pv)) (n := 33) (listed := #[false, false, false, false, false, false, false, false, false, false, false, false, false, false, false, false, false, false, false, false, false, false, false, false, false, false, false, false, false, false, false, false, false]) (by kernel_rfl) (by rfl) (by rfl) ?_ (fun hHeld => ?_)
            (focus ((try dsimp only); (first | done | ((first | (with_reducible exact S24.out) | exact S24.out); done))))
            (refine takeH (i := 0) (v := ?_) (by decide +kernel) (by decide +kernel) (by kernel_rfl) (by rfl) (by exact fun _ _ _ h => h) (by rfl) ?_ (by assumption) ?_); rotate_left; (focus (intro w hSw; (try dsimp only at hSw); go_simp; (try with_reducible rfl); done)); (try simp only [Act.put, List.setIfInBounds_toArray, List.set_cons_zero, List.set_cons_succ])
            (refine takeH (i := 1) (v := ?_) (by decide +kernel) (by decide +kernel) (by kernel_rfl) (by rfl) (by exact fun _ _ _ h => h) (by rfl) ?_ (by assumption) ?_); rotate_left; (focus (intro w hSw; (try dsimp only at hSw); go_simp; (try with_reducible rfl); done)); (try simp only [Act.put, List.setIfInBounds_toArray, List.set_cons_zero, List.set_cons_succ])
            (refine takeH (i := 2) (v := ?_) (by decide +kernel) (by decide +kernel) (by kernel_rfl) (by rfl) (by exact fun _ _ _ h => h) (by rfl) ?_ (by assumption) ?_); rotate_left; (focus (intro w hSw; (try dsimp only at hSw); go_simp; (try with_reducible rfl); done)); (try simp only [Act.put, List.setIfInBounds_toArray, List.set_cons_zero, List.set_cons_succ])
            (refine takeH (i := 3) (v := ?_) (by decide +kernel) (by decide +kernel) (by kernel_rfl) (by rfl) (by exact fun _ _ _ h => h) (by rfl) ?_ (by assumption) ?_); rotate_left; (focus (intro w hSw; (try dsimp only at hSw); go_simp; (try with_reducible rfl); done)); (try simp only [Act.put, List.setIfInBounds_toArray, List.set_cons_zero, List.set_cons_succ])
            (refine takeH (i := 4) (v := ?_) (by decide +kernel) (by decide +kernel) (by kernel_rfl) (by rfl) (by exact fun _ _ _ h => h) (by rfl) ?_ (by assumption) ?_); rotate_left; (focus (intro w hSw; (try dsimp only at hSw); go_simp; (try with_reducible rfl); done)); (try simp only [Act.put, List.setIfInBounds_toArray, List.set_cons_zero, List.set_cons_succ])
            (refine takeH (i := 5) (v := ?_) (by decide +kernel) (by decide +kernel) (by kernel_rfl) (by rfl) (by exact fun _ _ _ h => h) (by rfl) ?_ (by assumption) ?_); rotate_left; (focus (intro w hSw; (try dsimp only at hSw); go_simp; (try with_reducible rfl); done)); (try simp only [Act.put, List.setIfInBounds_toArray, List.set_cons_zero, List.set_cons_succ])
            (refine takeH (i := 6) (v := ?_) (by decide +kernel) (by decide +kernel) (by kernel_rfl) (by rfl) (by exact fun _ _ _ h => h) (by rfl) ?_ (by assumption) ?_); rotate_left; (focus (intro w hSw; (try dsimp only at hSw); go_simp; (try with_reducible rfl); done)); (try simp only [Act.put, List.setIfInBounds_toArray, List.set_cons_zero, List.set_cons_succ])
            (refine takeH (i := 7) (v := ?_) (by decide +kernel) (by decide +kernel) (by kernel_rfl) (by rfl) (by exact fun _ _ _ h => h) (by rfl) ?_ (by assumption) ?_); rotate_left; (focus (intro w hSw; (try dsimp only at hSw); go_simp; (try with_reducible rfl); done)); (try simp only [Act.put, List.setIfInBounds_toArray, List.set_cons_zero, List.set_cons_succ])
            (refine takeH (i := 8) (v := ?_) (by decide +kernel) (by decide +kernel) (by kernel_rfl) (by rfl) (by exact fun _ _ _ h => h) (by rfl) ?_ (by assumption) ?_); rotate_left; (focus (intro w hSw; (try dsimp only at hSw); go_simp; (try with_reducible rfl); done)); (try simp only [Act.put, List.setIfInBounds_toArray, List.set_cons_zero, List.set_cons_succ])
            (refine takeH (i := 9) (v := ?_) (by decide +kernel) (by decide +kernel) (by kernel_rfl) (by rfl) (by exact fun _ _ _ h => h) (by rfl) ?_ (by assumption) ?_); rotate_left; (focus (intro w hSw; (try dsimp only at hSw); go_simp; (try with_reducible rfl); done)); (try simp only [Act.put, List.setIfInBounds_toArray, List.set_cons_zero, List.set_cons_succ])
            (refine takeH (i := 10) (v := ?_) (by decide +kernel) (by decide +kernel) (by kernel_rfl) (by rfl) (by exact fun _ _ _ h => h) (by rfl) ?_ (by assumption) ?_); rotate_left; (focus (intro w hSw; (try dsimp only at hSw); go_simp; (try with_reducible rfl); done)); (try simp only [Act.put, List.setIfInBounds_toArray, List.set_cons_zero, List.set_cons_succ])
            (refine takeH (i := 11) (v := ?_) (by decide +kernel) (by decide +kernel) (by kernel_rfl) (by rfl) (by exact fun _ _ _ h => h) (by rfl) ?_ (by assumption) ?_); rotate_left; (focus (intro w hSw; (try dsimp only at hSw); go_simp; (try with_reducible rfl); done)); (try simp only [Act.put, List.setIfInBounds_toArray, List.set_cons_zero, List.set_cons_succ])
            (refine takeH (i := 12) (v := ?_) (by decide +kernel) (by decide +kernel) (by kernel_rfl) (by rfl) (by exact fun _ _ _ h => h) (by rfl) ?_ (by assumption) ?_); rotate_left; (focus (intro w hSw; (try dsimp only at hSw); go_simp; (try with_reducible rfl); done)); (try simp only [Act.put, List.setIfInBounds_toArray, List.set_cons_zero, List.set_cons_succ])
            (refine takeH (i := 13) (v := ?_) (by decide +kernel) (by decide +kernel) (by kernel_rfl) (by rfl) (by exact fun _ _ _ h => h) (by rfl) ?_ (by assumption) ?_); rotate_left; (focus (intro w hSw; (try dsimp only at hSw); go_simp; (try with_reducible rfl); done)); (try simp only [Act.put, List.setIfInBounds_toArray, List.set_cons_zero, List.set_cons_succ])
            (refine takeH (i := 14) (v := ?_) (by decide +kernel) (by decide +kernel) (by kernel_rfl) (by rfl) (by exact fun _ _ _ h => h) (by rfl) ?_ (by assumption) ?_); rotate_left; (focus (intro w hSw; (try dsimp only at hSw); go_simp; (try with_reducible rfl); done)); (try simp only [Act.put, List.setIfInBounds_toArray, List.set_cons_zero, List.set_cons_succ])
            (refine takeH (i := 15) (v := ?_) (by decide +kernel) (by decide +kernel) (by kernel_rfl) (by rfl) (by exact fun _ _ _ h => h) (by rfl) ?_ (by assumption) ?_); rotate_left; (focus (intro w hSw; (try dsimp only at hSw); go_simp; (try with_reducible rfl); done)); (try simp only [Act.put, List.setIfInBounds_toArray, List.set_cons_zero, List.set_cons_succ])
            (refine takeH (i := 16) (v := ?_) (by decide +kernel) (by decide +kernel) (by kernel_rfl) (by rfl) (by exact fun _ _ _ h => h) (by rfl) ?_ (by assumption) ?_); rotate_left; (focus (intro w hSw; (try dsimp only at hSw); go_simp; (try with_reducible rfl); done)); (try simp only [Act.put, List.setIfInBounds_toArray, List.set_cons_zero, List.set_cons_succ])
            (refine takeH (i := 17) (v := ?_) (by decide +kernel) (by decide +kernel) (by kernel_rfl) (by rfl) (by exact fun _ _ _ h => h) (by rfl) ?_ (by assumption) ?_); rotate_left; (focus (intro w hSw; (try dsimp only at hSw); go_simp; (try with_reducible rfl); done)); (try simp only [Act.put, List.setIfInBounds_toArray, List.set_cons_zero, List.set_cons_succ])
            (refine takeH (i := 18) (v := ?_) (by decide +kernel) (by decide +kernel) (by kernel_rfl) (by rfl) (by exact fun _ _ _ h => h) (by rfl) ?_ (by assumption) ?_); rotate_left; (focus (intro w hSw; (try dsimp only at hSw); go_simp; (try with_reducible rfl); done)); (try simp only [Act.put, List.setIfInBounds_toArray, List.set_cons_zero, List.set_cons_succ])
            (refine takeH (i := 19) (v := ?_) (by decide +kernel) (by decide +kernel) (by kernel_rfl) (by rfl) (by exact fun _ _ _ h => h) (by rfl) ?_ (by assumption) ?_); rotate_left; (focus (intro w hSw; (try dsimp only at hSw); go_simp; (try with_reducible rfl); done)); (try simp only [Act.put, List.setIfInBounds_toArray, List.set_cons_zero, List.set_cons_succ])
            (refine takeH (i := 20) (v := ?_) (by decide +kernel) (by decide +kernel) (by kernel_rfl) (by rfl) (by exact fun _ _ _ h => h) (by rfl) ?_ (by assumption) ?_); rotate_left; (focus (intro w hSw; (try dsimp only at hSw); go_simp; (try with_reducible rfl); done)); (try simp only [Act.put, List.setIfInBounds_toArray, List.set_cons_zero, List.set_cons_succ])
            (refine takeH (i := 21) (v := ?_) (by decide +kernel) (by decide +kernel) (by kernel_rfl) (by rfl) (by exact fun _ _ _ h => h) (by rfl) ?_ (by assumption) ?_); rotate_left; (focus (intro w hSw; (try dsimp only at hSw); go_simp; (try with_reducible rfl); done)); (try simp only [Act.put, List.setIfInBounds_toArray, List.set_cons_zero, List.set_cons_succ])
            (refine takeH (i := 22) (v := ?_) (by decide +kernel) (by decide +kernel) (by kernel_rfl) (by rfl) (by exact fun _ _ _ h => h) (by rfl) ?_ (by assumption) ?_); rotate_left; (focus (intro w hSw; (try dsimp only at hSw); go_simp; (try with_reducible rfl); done)); (try simp only [Act.put, List.setIfInBounds_toArray, List.set_cons_zero, List.set_cons_succ])
            (refine takeH (i := 23) (v := ?_) (by decide +kernel) (by decide +kernel) (by kernel_rfl) (by rfl) (by exact fun _ _ _ h => h) (by rfl) ?_ (by assumption) ?_); rotate_left; (focus (intro w hSw; (try dsimp only at hSw); go_simp; (try with_reducible rfl); done)); (try simp only [Act.put, List.setIfInBounds_toArray, List.set_cons_zero, List.set_cons_succ])
            (refine takeH (i := 24) (v := ?_) (by decide +kernel) (by decide +kernel) (by kernel_rfl) (by rfl) (by exact fun _ _ _ h => h) (by rfl) ?_ (by assumption) ?_); rotate_left; (focus (intro w hSw; (try dsimp only at hSw); go_simp; (try with_reducible rfl); done)); (try simp only [Act.put, List.setIfInBounds_toArray, List.set_cons_zero, List.set_cons_succ])
            (refine takeH (i := 25) (v := ?_) (by decide +kernel) (by decide +kernel) (by kernel_rfl) (by rfl) (by exact fun _ _ _ h => h) (by rfl) ?_ (by assumption) ?_); rotate_left; (focus (intro w hSw; (try dsimp only at hSw); go_simp; (try with_reducible rfl); done)); (try simp only [Act.put, List.setIfInBounds_toArray, List.set_cons_zero, List.set_cons_succ])
            (refine takeH (i := 26) (v := ?_) (by decide +kernel) (by decide +kernel) (by kernel_rfl) (by rfl) (by exact fun _ _ _ h => h) (by rfl) ?_ (by assumption) ?_); rotate_left; (focus (intro w hSw; (try dsimp only at hSw); go_simp; (try with_reducible rfl); done)); (try simp only [Act.put, List.setIfInBounds_toArray, List.set_cons_zero, List.set_cons_succ])
            (refine takeH (i := 27) (v := ?_) (by decide +kernel) (by decide +kernel) (by kernel_rfl) (by rfl) (by exact fun _ _ _ h => h) (by rfl) ?_ (by assumption) ?_); rotate_left; (focus (intro w hSw; (try dsimp only at hSw); go_simp; (try with_reducible rfl); done)); (try simp only [Act.put, List.setIfInBounds_toArray, List.set_cons_zero, List.set_cons_succ])
            (refine takeH (i := 28) (v := ?_) (by decide +kernel) (by decide +kernel) (by kernel_rfl) (by rfl) (by exact fun _ _ _ h => h) (by rfl) ?_ (by assumption) ?_); rotate_left; (focus (intro w hSw; (try dsimp only at hSw); go_simp; (try with_reducible rfl); done)); (try simp only [Act.put, List.setIfInBounds_toArray, List.set_cons_zero, List.set_cons_succ])
            (refine takeH (i := 29) (v := ?_) (by decide +kernel) (by decide +kernel) (by kernel_rfl) (by rfl) (by exact fun _ _ _ h => h) (by rfl) ?_ (by assumption) ?_); rotate_left; (focus (intro w hSw; (try dsimp only at hSw); go_simp; (try with_reducible rfl); done)); (try simp only [Act.put, List.setIfInBounds_toArray, List.set_cons_zero, List.set_cons_succ])
            (refine takeH (i := 30) (v := ?_) (by decide +kernel) (by decide +kernel) (by kernel_rfl) (by rfl) (by exact fun _ _ _ h => h) (by rfl) ?_ (by assumption) ?_); rotate_left; (focus (intro w hSw; (try dsimp only at hSw); go_simp; (try with_reducible rfl); done)); (try simp only [Act.put, List.setIfInBounds_toArray, List.set_cons_zero, List.set_cons_succ])
            (refine takeH (i := 31) (v := ?_) (by decide +kernel) (by decide +kernel) (by kernel_rfl) (by rfl) (by exact fun _ _ _ h => h) (by rfl) ?_ (by assumption) ?_); rotate_left; (focus (intro w hSw; (try dsimp only at hSw); go_simp; (try with_reducible rfl); done)); (try simp only [Act.put, List.setIfInBounds_toArray, List.set_cons_zero, List.set_cons_succ])
            (refine takeH (i := 32) (v := ?_) (by decide +kernel) (by decide +kernel) (by kernel_rfl) (by rfl) (by exact fun _ _ _ h => h) (by rfl) ?_ (by assumption) ?_); rotate_left; (focus (intro w hSw; (try dsimp only at hSw); go_simp; (try with_reducible rfl); done)); (try simp only [Act.put, List.setIfInBounds_toArray, List.set_cons_zero, List.set_cons_succ])
            refine wpAnyH_done (by decide +kernel) ?_ _
            clear hHeld wr1 wr2
            go_wp2
            go_ret
            exact ⟨rfl, HW.out _ hB.out.drew⟩
      · have HRL := Lib.hid hrl
        clear hrl
        have hs := hsame HRL.out
        simp only [Sn.mk.injEq] at hs
        obtain ⟨e1, e2, e3, e4⟩ := hs
        subst e1 e2 e3 e4
        have C6 := Lib.hid (fun W h h' => sSameSown_c ⟨zp', [zu, pv], zl', 1⟩ D B W h h' (by unfold maxLen; dsimp only; omega) (by unfold maxLen; simp))
        obtain ⟨c0, c1, c2, c3, c4, c5, c6, c7, c8⟩ := R.boxc (F9.at 8 rfl)
        obtain ⟨d0, d1, d2⟩ := P.boxc (F9.at 7 rfl)
        simp only [World.size_alloc] at d0 d1 d2
        obtain ⟨l0, l1, l2, l3⟩ := (⟨F9.at 4 rfl 0 _ rfl, F9.at 4 rfl 1 _ rfl, F9.at 4 rfl 2 _ rfl, F9.at 4 rfl 3 _ rfl⟩ : _ ∧ _ ∧ _ ∧ _)
        obtain ⟨z0, z1, z2, z3⟩ := (⟨F9.at 1 rfl 0 _ rfl, F9.at 1 rfl 1 _ rfl, F9.at 1 rfl 2 _ rfl, F9.at 1 rfl 3 _ rfl⟩ : _ ∧ _ ∧ _ ∧ _)
        have S9 : Hid (w9.drew.cell? ⟨w2.heap.size, 0, none⟩ = some (.int .i64 r.pits) ∧ w9.drew.cell? ⟨w2.heap.size, 1, none⟩ = some (.int .i64 r.seeds) ∧ w9.drew.cell? ⟨w2.heap.size, 2, none⟩ = some (.bool r.stores) ∧ w9.drew.cell? ⟨w2.heap.size, 3, none⟩ = some (.bool r.skip) ∧ w9.drew.cell? ⟨w2.heap.size, 4, none⟩ = some (.bool r.relay) ∧ w9.drew.cell? ⟨w2.heap.size, 5, none⟩ = some (.bool r.feed) ∧ w9.drew.cell? ⟨w2.heap.size, 6, none⟩ = some (.bool r.again) ∧ w9.drew.cell? ⟨w2.heap.size, 7, none⟩ = some (.int .i64 r.capture) ∧ w9.drew.cell? ⟨w2.heap.size, 8, none⟩ = some (.int .i64 r.slam) ∧ w9.drew.cell? ⟨w2.heap.size + 1, 0, none⟩ = some (.slice (some ⟨bp, op, none⟩) pp.length AC) ∧ w9.drew.cell? ⟨w2.heap.size + 1, 1, none⟩ = some (.slice SA 2 SC) ∧ w9.drew.cell? ⟨w2.heap.size + 1, 2, none⟩ = some (.int .i64 0) ∧ w9.drew.cell? ⟨w4.heap.size, 0, none⟩ = some (.slice B.pa zp'.length B.pc) ∧ w9.drew.cell? ⟨w4.heap.size, 1, none⟩ = some (.slice B.sa 2 B.sc) ∧ w9.drew.cell? ⟨w4.heap.size, 2, none⟩ = some (.int .i64 zl') ∧ w9.drew.cell? ⟨w4.heap.size, 3, none⟩ = some (.int .i64 1) ∧ w9.drew.cell? ⟨w5.heap.size, 0, none⟩ = some (.slice D.pa zp'.length D.pc) ∧ w9.drew.cell? ⟨w5.heap.size, 1, none⟩ = some (.slice D.sa 2 D.sc) ∧ w9.drew.cell? ⟨w5.heap.size, 2, none⟩ = some (.int .i64 zl') ∧ w9.drew.cell? ⟨w5.heap.size, 3, none⟩ = some (.int .i64 1) ∧ w9.drew.cell? ⟨bt, ot + kk, none⟩ = some (.int .i64 zl')) := (And.intro (c0) (And.intro (c1) (And.intro (c2) (And.intro (c3) (And.intro (c4) (And.intro (c5) (And.intro (c6) (And.intro (c7) (And.intro (c8) (And.intro (d0) (And.intro (d1) (And.intro (d2) (And.intro (l0) (And.intro (l1) (And.intro (l2) (And.intro (l3) (And.intro (z0) (And.intro (z1) (And.intro (z2) (And.intro (z3) (kt)))))))))))))))))))))
        have hl0 : ((tl.length : Int) == 0) = false := by have : ¬ (tl.length : Int) = 0 := by omega
                                                          simpa using this
        have hkki : (kk : Int) < (tl.length : Int) := by omega
        have wrk : IntKind.i64.wrap ((tl.length : Int) - 1) = (kk : Int) := (IntWalk.i64_in _ (by omega)).trans (by have := HKK.out; omega)
        go_upto_region 14 with fail
        refine heldH (S := fun W => W.cell? ⟨w2.heap.size, 0, none⟩ = some (.int .i64 r.pits) ∧ W.cell? ⟨w2.heap.size, 1, none⟩ = some (.int .i64 r.seeds) ∧ W.cell? ⟨w2.heap.size, 2, none⟩ = some (.bool r.stores) ∧ W.cell? ⟨w2.heap.size, 3, none⟩ = some (.bool r.skip) ∧ W.cell? ⟨w2.heap.size, 4, none⟩ = some (.bool r.relay) ∧ W.cell? ⟨w2.heap.size, 5, none⟩ = some (.bool r.feed) ∧ W.cell? ⟨w2.heap.size, 6, none⟩ = some (.bool r.again) ∧ W.cell? ⟨w2.heap.size, 7, none⟩ = some (.int .i64 r.capture) ∧ W.cell? ⟨w2.heap.size, 8, none⟩ = some (.int .i64 r.slam) ∧ W.cell? ⟨w2.heap.size + 1, 0, none⟩ = some (.slice (some ⟨bp, op, none⟩) pp.length AC) ∧ W.cell? ⟨w2.heap.size + 1, 1, none⟩ = some (.slice SA 2 SC) ∧ W.cell? ⟨w2.heap.size + 1, 2, none⟩ = some (.int .i64 0) ∧ W.cell? ⟨w4.heap.size, 0, none⟩ = some (.slice B.pa zp'.length B.pc) ∧ W.cell? ⟨w4.heap.size, 1, none⟩ = some (.slice B.sa 2 B.sc) ∧ W.cell? ⟨w4.heap.size, 2, none⟩ = some (.int .i64 zl') ∧ W.cell? ⟨w4.heap.size, 3, none⟩ = some (.int .i64 1) ∧ W.cell? ⟨w5.heap.size, 0, none⟩ = some (.slice D.pa zp'.length D.pc) ∧ W.cell? ⟨w5.heap.size, 1, none⟩ = some (.slice D.sa 2 D.sc) ∧ W.cell? ⟨w5.heap.size, 2, none⟩ = some (.int .i64 zl') ∧ W.cell? ⟨w5.heap.size, 3, none⟩ = some (.int .i64 1) ∧ W.cell? ⟨bt, ot + kk, none⟩ = some (.int .i64 zl')) (n := 40) (listed := #[false, false, false, false, false, false, false, false, false, false, false, false, false, false, false, false, false, false, false, false, false, false, false, false, false, false, false, false, false, false, false, false, false, false, false, false, false, false, false, false]) (by kernel_rfl) (by rfl) (by rfl) ?_ (fun hHeld => ?_)
        (focus ((try dsimp only); (first | done | ((first | (with_reducible exact S13.out) | (with_reducible exact S12.out) | (with_reducible exact S11.out) | (with_reducible exact S10.out) | (with_reducible exact S9.out)); done))))
        (refine takeH (i := 0) (v := ?_) (by decide +kernel) (by decide +kernel) (by kernel_rfl) (by rfl) (by exact fun _ _ _ h => h) (by rfl) ?_ (by assumption) ?_); rotate_left; (focus (intro w hSw; (try dsimp only at hSw); go_simp; (try with_reducible rfl); done)); (try simp only [Act.put, List.setIfInBounds_toArray, List.set_cons_zero, List.set_cons_succ])
        (refine takeH (i := 2) (v := ?_) (by decide +kernel) (by decide +kernel) (by kernel_rfl) (by rfl) (by exact fun _ _ _ h => h) (by rfl) ?_ (by assumption) ?_); rotate_left; (focus (intro w hSw; (try dsimp only at hSw); go_simp; (try with_reducible rfl); done)); (try simp only [Act.put, List.setIfInBounds_toArray, List.set_cons_zero, List.set_cons_succ])
        refine nextH (i := 1) (by decide +kernel) (by rfl) (by rfl) (fun K hK => ?_)
        (go_simp; go_at_call 56; (refine (C4.out _ ⟨(F9.drew.at 3 rfl).1, (F9.drew.at 2 rfl).1⟩).mono ?_); (rintro e w10 ⟨rfl, hb10⟩); (have hc10 := (bcell hb10).1); (have S10 := Lib.hid (And.intro ((hc10 _ _ zr).trans S9.out.1) (And.intro ((hc10 _ _ zr).trans S9.out.2.1) (And.intro ((hc10 _ _ zr).trans S9.out.2.2.1) (And.intro ((hc10 _ _ zr).trans S9.out.2.2.2.1) (And.intro ((hc10 _ _ zr).trans S9.out.2.2.2.2.1) (And.intro ((hc10 _ _ zr).trans S9.out.2.2.2.2.2.1) (And.intro ((hc10 _ _ zr).trans S9.out.2.2.2.2.2.2.1) (And.intro ((hc10 _ _ zr).trans S9.out.2.2.2.2.2.2.2.1) (And.intro ((hc10 _ _ zr).trans S9.out.2.2.2.2.2.2.2.2.1) (And.intro ((hc10 _ _ zp).trans S9.out.2.2.2.2.2.2.2.2.2.1) (And.intro ((hc10 _ _ zp).trans S9.out.2.2.2.2.2.2.2.2.2.2.1) (And.intro ((hc10 _ _ zp).trans S9.out.2.2.2.2.2.2.2.2.2.2.2.1) (And.intro ((hc10 _ _ zl).trans S9.out.2.2.2.2.2.2.2.2.2.2.2.2.1) (And.intro ((hc10 _ _ zl).trans S9.out.2.2.2.2.2.2.2.2.2.2.2.2.2.1) (And.intro ((hc10 _ _ zl).trans S9.out.2.2.2.2.2.2.2.2.2.2.2.2.2.2.1) (And.intro ((hc10 _ _ zl).trans S9.out.2.2.2.2.2.2.2.2.2.2.2.2.2.2.2.1) (And.intro ((hc10 _ _ zz).trans S9.out.2.2.2.2.2.2.2.2.2.2.2.2.2.2.2.2.1) (And.intro ((hc10 _ _ zz).trans S9.out.2.2.2.2.2.2.2.2.2.2.2.2.2.2.2.2.2.1) (And.intro ((hc10 _ _ zz).trans S9.out.2.2.2.2.2.2.2.2.2.2.2.2.2.2.2.2.2.2.1) (And.intro ((hc10 _ _ zz).trans S9.out.2.2.2.2.2.2.2.2.2.2.2.2.2.2.2.2.2.2.2.1) ((hc10 _ _ hbt).trans S9.out.2.2.2.2.2.2.2.2.2.2.2.2.2.2.2.2.2.2.2.2)))))))))))))))))))))); (have y10 : w9.heap.size ≤ w10.heap.size := hb10.size); (have F10 := F9.drew.step hb10); (have K10 : Hid (Below w9.heap.size w9 w10) := (Below.refl _ _).drew.trans hb10); clear hb10 hc10)
        refine hK.out _ _ ?_ (fun hHeld' => ?_)
        (focus ((try dsimp only); (first | done | ((first | (with_reducible exact S13.out) | (with_reducible exact S12.out) | (with_reducible exact S11.out) | (with_reducible exact S10.out) | (with_reducible exact S9.out)); done))))
        clear hK K hHeld
        have hHeld := hHeld'
        clear hHeld'
        (try simp only [Act.put, List.setIfInBounds_toArray, List.set_cons_zero, List.set_cons_succ])
        refine nextH (i := 3) (by decide +kernel) (by rfl) (by rfl) (fun K hK => ?_)
        (go_simp; go_at_call 57; (refine (C2.out _ ⟨(F10.at 10 rfl).1, (F10.at 9 rfl).1⟩).mono ?_); (rintro e w11 ⟨rfl, hb11⟩); (have hc11 := (bcell hb11).1); (have S11 := Lib.hid (And.intro ((hc11 _ _ (Nat.lt_of_lt_of_le zr y10)).trans S10.out.1) (And.intro ((hc11 _ _ (Nat.lt_of_lt_of_le zr y10)).trans S10.out.2.1) (And.intro ((hc11 _ _ (Nat.lt_of_lt_of_le zr y10)).trans S10.out.2.2.1) (And.intro ((hc11 _ _ (Nat.lt_of_lt_of_le zr y10)).trans S10.out.2.2.2.1) (And.intro ((hc11 _ _ (Nat.lt_of_lt_of_le zr y10)).trans S10.out.2.2.2.2.1) (And.intro ((hc11 _ _ (Nat.lt_of_lt_of_le zr y10)).trans S10.out.2.2.2.2.2.1) (And.intro ((hc11 _ _ (Nat.lt_of_lt_of_le zr y10)).trans S10.out.2.2.2.2.2.2.1) (And.intro ((hc11 _ _ (Nat.lt_of_lt_of_le zr y10)).trans S10.out.2.2.2.2.2.2.2.1) (And.intro ((hc11 _ _ (Nat.lt_of_lt_of_le zr y10)).trans S10.out.2.2.2.2.2.2.2.2.1) (And.intro ((hc11 _ _ (Nat.lt_of_lt_of_le zp y10)).trans S10.out.2.2.2.2.2.2.2.2.2.1) (And.intro ((hc11 _ _ (Nat.lt_of_lt_of_le zp y10)).trans S10.out.2.2.2.2.2.2.2.2.2.2.1) (And.intro ((hc11 _ _ (Nat.lt_of_lt_of_le zp y10)).trans S10.out.2.2.2.2.2.2.2.2.2.2.2.1) (And.intro ((hc11 _ _ (Nat.lt_of_lt_of_le zl y10)).trans S10.out.2.2.2.2.2.2.2.2.2.2.2.2.1) (And.intro ((hc11 _ _ (Nat.lt_of_lt_of_le zl y10)).trans S10.out.2.2.2.2.2.2.2.2.2.2.2.2.2.1) (And.intro ((hc11 _ _ (Nat.lt_of_lt_of_le zl y10)).trans S10.out.2.2.2.2.2.2.2.2.2.2.2.2.2.2.1) (And.intro ((hc11 _ _ (Nat.lt_of_lt_of_le zl y10)).trans S10.out.2.2.2.2.2.2.2.2.2.2.2.2.2.2.2.1) (And.intro ((hc11 _ _ (Nat.lt_of_lt_of_le zz y10)).trans S10.out.2.2.2.2.2.2.2.2.2.2.2.2.2.2.2.2.1) (And.intro ((hc11 _ _ (Nat.lt_of_lt_of_le zz y10)).trans S10.out.2.2.2.2.2.2.2.2.2.2.2.2.2.2.2.2.2.1) (And.intro ((hc11 _ _ (Nat.lt_of_lt_of_le zz y10)).trans S10.out.2.2.2.2.2.2.2.2.2.2.2.2.2.2.2.2.2.2.1) (And.intro ((hc11 _ _ (Nat.lt_of_lt_of_le zz y10)).trans S10.out.2.2.2.2.2.2.2.2.2.2.2.2.2.2.2.2.2.2.2.1) ((hc11 _ _ (Nat.lt_of_lt_of_le hbt y10)).trans S10.out.2.2.2.2.2.2.2.2.2.2.2.2.2.2.2.2.2.2.2.2)))))))))))))))))))))); (have y11 : w9.heap.size ≤ w11.heap.size := Nat.le_trans y10 hb11.size); (have F11 := F10.step hb11); (have K11 := Lib.hid (below_next K10.out hb11)); clear hb11 hc11)
        refine hK.out _ _ ?_ (fun hHeld' => ?_)
        (focus ((try dsimp only); (first | done | ((first | (with_reducible exact S13.out) | (with_reducible exact S12.out) | (with_reducible exact S11.out) | (with_reducible exact S10.out) | (with_reducible exact S9.out)); done))))
        clear hK K hHeld
        have hHeld := hHeld'
        clear hHeld'
        (try simp only [Act.put, List.setIfInBounds_toArray, List.set_cons_zero, List.set_cons_succ])
        (refine takeH (i := 4) (v := ?_) (by decide +kernel) (by decide +kernel) (by kernel_rfl) (by rfl) (by exact fun _ _ _ h => h) (by rfl) ?_ (by assumption) ?_); rotate_left; (focus (intro w hSw; (try dsimp only at hSw); go_simp; (try with_reducible rfl); done)); (try simp only [Act.put, List.setIfInBounds_toArray, List.set_cons_zero, List.set_cons_succ])
        (refine takeH (i := 5) (v := ?_) (by decide +kernel) (by decide +kernel) (by kernel_rfl) (by rfl) (by exact fun _ _ _ h => h) (by rfl) ?_ (by assumption) ?_); rotate_left; (focus (intro w hSw; (try dsimp only at hSw); go_simp; (try with_reducible rfl); done)); (try simp only [Act.put, List.setIfInBounds_toArray, List.set_cons_zero, List.set_cons_succ])
        (refine takeH (i := 6) (v := ?_) (by decide +kernel) (by decide +kernel) (by kernel_rfl) (by rfl) (by exact fun _ _ _ h => h) (by rfl) ?_ (by assumption) ?_); rotate_left; (focus (intro w hSw; (try dsimp only at hSw); go_simp; (try with_reducible rfl); done)); (try simp only [Act.put, List.setIfInBounds_toArray, List.set_cons_zero, List.set_cons_succ])
        (refine takeH (i := 7) (v := ?_) (by decide +kernel) (by decide +kernel) (by kernel_rfl) (by rfl) (by exact fun _ _ _ h => h) (by rfl) ?_ (by assumption) ?_); rotate_left; (focus (intro w hSw; (try dsimp only at hSw); go_simp; (try with_reducible rfl); done)); (try simp only [Act.put, List.setIfInBounds_toArray, List.set_cons_zero, List.set_cons_succ])
        (refine takeH (i := 8) (v := ?_) (by decide +kernel) (by decide +kernel) (by kernel_rfl) (by rfl) (by exact fun _ _ _ h => h) (by rfl) ?_ (by assumption) ?_); rotate_left; (focus (intro w hSw; (try dsimp only at hSw); go_simp; (try with_reducible rfl); done)); (try simp only [Act.put, List.setIfInBounds_toArray, List.set_cons_zero, List.set_cons_succ])
        (refine takeH (i := 9) (v := ?_) (by decide +kernel) (by decide +kernel) (by kernel_rfl) (by rfl) (by exact fun _ _ _ h => h) (by rfl) ?_ (by assumption) ?_); rotate_left; (focus (intro w hSw; (try dsimp only at hSw); go_simp; (try with_reducible rfl); done)); (try simp only [Act.put, List.setIfInBounds_toArray, List.set_cons_zero, List.set_cons_succ])
        refine nextH (i := 10) (by decide +kernel) (by rfl) (by rfl) (fun K hK => ?_)
        (go_simp; go_at_call 59; (refine (C5.out _ ⟨(F11.at 3 rfl).1, (F11.at 2 rfl).1⟩).mono ?_); (rintro e w12 ⟨rfl, hb12⟩); (have hc12 := (bcell hb12).1); (have S12 := Lib.hid (And.intro ((hc12 _ _ (Nat.lt_of_lt_of_le zr y11)).trans S11.out.1) (And.intro ((hc12 _ _ (Nat.lt_of_lt_of_le zr y11)).trans S11.out.2.1) (And.intro ((hc12 _ _ (Nat.lt_of_lt_of_le zr y11)).trans S11.out.2.2.1) (And.intro ((hc12 _ _ (Nat.lt_of_lt_of_le zr y11)).trans S11.out.2.2.2.1) (And.intro ((hc12 _ _ (Nat.lt_of_lt_of_le zr y11)).trans S11.out.2.2.2.2.1) (And.intro ((hc12 _ _ (Nat.lt_of_lt_of_le zr y11)).trans S11.out.2.2.2.2.2.1) (And.intro ((hc12 _ _ (Nat.lt_of_lt_of_le zr y11)).trans S11.out.2.2.2.2.2.2.1) (And.intro ((hc12 _ _ (Nat.lt_of_lt_of_le zr y11)).trans S11.out.2.2.2.2.2.2.2.1) (And.intro ((hc12 _ _ (Nat.lt_of_lt_of_le zr y11)).trans S11.out.2.2.2.2.2.2.2.2.1) (And.intro ((hc12 _ _ (Nat.lt_of_lt_of_le zp y11)).trans S11.out.2.2.2.2.2.2.2.2.2.1) (And.intro ((hc12 _ _ (Nat.lt_of_lt_of_le zp y11)).trans S11.out.2.2.2.2.2.2.2.2.2.2.1) (And.intro ((hc12 _ _ (Nat.lt_of_lt_of_le zp y11)).trans S11.out.2.2.2.2.2.2.2.2.2.2.2.1) (And.intro ((hc12 _ _ (Nat.lt_of_lt_of_le zl y11)).trans S11.out.2.2.2.2.2.2.2.2.2.2.2.2.1) (And.intro ((hc12 _ _ (Nat.lt_of_lt_of_le zl y11)).trans S11.out.2.2.2.2.2.2.2.2.2.2.2.2.2.1) (And.intro ((hc12 _ _ (Nat.lt_of_lt_of_le zl y11)).trans S11.out.2.2.2.2.2.2.2.2.2.2.2.2.2.2.1) (And.intro ((hc12 _ _ (Nat.lt_of_lt_of_le zl y11)).trans S11.out.2.2.2.2.2.2.2.2.2.2.2.2.2.2.2.1) (And.intro ((hc12 _ _ (Nat.lt_of_lt_of_le zz y11)).trans S11.out.2.2.2.2.2.2.2.2.2.2.2.2.2.2.2.2.1) (And.intro ((hc12 _ _ (Nat.lt_of_lt_of_le zz y11)).trans S11.out.2.2.2.2.2.2.2.2.2.2.2.2.2.2.2.2.2.1) (And.intro ((hc12 _ _ (Nat.lt_of_lt_of_le zz y11)).trans S11.out.2.2.2.2.2.2.2.2.2.2.2.2.2.2.2.2.2.2.1) (And.intro ((hc12 _ _ (Nat.lt_of_lt_of_le zz y11)).trans S11.out.2.2.2.2.2.2.2.2.2.2.2.2.2.2.2.2.2.2.2.1) ((hc12 _ _ (Nat.lt_of_lt_of_le hbt y11)).trans S11.out.2.2.2.2.2.2.2.2.2.2.2.2.2.2.2.2.2.2.2.2)))))))))))))))))))))); (have y12 : w9.heap.size ≤ w12.heap.size := Nat.le_trans y11 hb12.size); (have F12 := F11.step hb12); (have K12 := Lib.hid (below_next K11.out hb12)); (have hrl := HRL.out); clear hb12 hc12)
        refine hK.out _ _ ?_ (fun hHeld' => ?_)
        (focus ((try dsimp only); (first | done | ((first | (with_reducible exact S13.out) | (with_reducible exact S12.out) | (with_reducible exact S11.out) | (with_reducible exact S10.out) | (with_reducible exact S9.out)); done))))
        clear hK K hHeld
        have hHeld := hHeld'
        clear hHeld'
        (try simp only [Act.put, List.setIfInBounds_toArray, List.set_cons_zero, List.set_cons_succ])
        (refine takeH (i := 11) (v := ?_) (by decide +kernel) (by decide +kernel) (by kernel_rfl) (by rfl) (by exact fun _ _ _ h => h) (by rfl) ?_ (by assumption) ?_); rotate_left; (focus (intro w hSw; (try dsimp only at hSw); go_simp; (try with_reducible rfl); done)); (try simp only [Act.put, List.setIfInBounds_toArray, List.set_cons_zero, List.set_cons_succ])
        (refine takeH (i := 12) (v := ?_) (by decide +kernel) (by decide +kernel) (by kernel_rfl) (by rfl) (by exact fun _ _ _ h => h) (by rfl) ?_ (by assumption) ?_); rotate_left; (focus (intro w hSw; (try dsimp only at hSw); go_simp; (try with_reducible rfl); done)); (try simp only [Act.put, List.setIfInBounds_toArray, List.set_cons_zero, List.set_cons_succ])
        (refine takeH (i := 13) (v := ?_) (by decide +kernel) (by decide +kernel) (by kernel_rfl) (by rfl) (by exact fun _ _ _ h => h) (by rfl) ?_ (by assumption) ?_); rotate_left; (focus (intro w hSw; (try dsimp only at hSw); go_simp; (try with_reducible rfl); done)); (try simp only [Act.put, List.setIfInBounds_toArray, List.set_cons_zero, List.set_cons_succ])
        (refine takeH (i := 14) (v := ?_) (by decide +kernel) (by decide +kernel) (by kernel_rfl) (by rfl) (by exact fun _ _ _ h => h) (by rfl) ?_ (by assumption) ?_); rotate_left; (focus (intro w hSw; (try dsimp only at hSw); go_simp; (try with_reducible rfl); done)); (try simp only [Act.put, List.setIfInBounds_toArray, List.set_cons_zero, List.set_cons_succ])
        (refine takeH (i := 15) (v := ?_) (by decide +kernel) (by decide +kernel) (by kernel_rfl) (by rfl) (by exact fun _ _ _ h => h) (by rfl) ?_ (by assumption) ?_); rotate_left; (focus (intro w hSw; (try dsimp only at hSw); go_simp; (try with_reducible rfl); done)); (try simp only [Act.put, List.setIfInBounds_toArray, List.set_cons_zero, List.set_cons_succ])
        (refine takeH (i := 16) (v := ?_) (by decide +kernel) (by decide +kernel) (by kernel_rfl) (by rfl) (by exact fun _ _ _ h => h) (by rfl) ?_ (by assumption) ?_); rotate_left; (focus (intro w hSw; (try dsimp only at hSw); go_simp; (try with_reducible rfl); done)); (try simp only [Act.put, List.setIfInBounds_toArray, List.set_cons_zero, List.set_cons_succ])
        (refine takeH (i := 17) (v := ?_) (by decide +kernel) (by decide +kernel) (by kernel_rfl) (by rfl) (by exact fun _ _ _ h => h) (by rfl) ?_ (by assumption) ?_); rotate_left; (focus (intro w hSw; (try dsimp only at hSw); go_simp; (try with_reducible rfl); done)); (try simp only [Act.put, List.setIfInBounds_toArray, List.set_cons_zero, List.set_cons_succ])
        (refine takeH (i := 18) (v := ?_) (by decide +kernel) (by decide +kernel) (by kernel_rfl) (by rfl) (by exact fun _ _ _ h => h) (by rfl) ?_ (by assumption) ?_); rotate_left; (focus (intro w hSw; (try dsimp only at hSw); go_simp; (try with_reducible rfl); done)); (try simp only [Act.put, List.setIfInBounds_toArray, List.set_cons_zero, List.set_cons_succ])
        (refine takeH (i := 19) (v := ?_) (by decide +kernel) (by decide +kernel) (by kernel_rfl) (by rfl) (by exact fun _ _ _ h => h) (by rfl) ?_ (by assumption) ?_); rotate_left; (focus (intro w hSw; (try dsimp only at hSw); go_simp; (try with_reducible rfl); done)); (try simp only [Act.put, List.setIfInBounds_toArray, List.set_cons_zero, List.set_cons_succ])
        (refine takeH (i := 20) (v := ?_) (by decide +kernel) (by decide +kernel) (by kernel_rfl) (by rfl) (by exact fun _ _ _ h => h) (by rfl) ?_ (by assumption) ?_); rotate_left; (focus (intro w hSw; (try dsimp only at hSw); go_simp; (try with_reducible rfl); done)); (try simp only [Act.put, List.setIfInBounds_toArray, List.set_cons_zero, List.set_cons_succ])
        (refine takeH (i := 21) (v := ?_) (by decide +kernel) (by decide +kernel) (by kernel_rfl) (by rfl) (by exact fun _ _ _ h => h) (by rfl) ?_ (by assumption) ?_); rotate_left; (focus (intro w hSw; (try dsimp only at hSw); go_simp; (try with_reducible rfl); done)); (try simp only [Act.put, List.setIfInBounds_toArray, List.set_cons_zero, List.set_cons_succ])
        (refine takeH (i := 22) (v := ?_) (by decide +kernel) (by decide +kernel) (by kernel_rfl) (by rfl) (by exact fun _ _ _ h => h) (by rfl) ?_ (by assumption) ?_); rotate_left; (focus (intro w hSw; (try dsimp only at hSw); go_simp; (try with_reducible rfl); done)); (try simp only [Act.put, List.setIfInBounds_toArray, List.set_cons_zero, List.set_cons_succ])
        (refine takeH (i := 23) (v := ?_) (by decide +kernel) (by decide +kernel) (by kernel_rfl) (by rfl) (by exact fun _ _ _ h => h) (by rfl) ?_ (by assumption) ?_); rotate_left; (focus (intro w hSw; (try dsimp only at hSw); go_simp; (try with_reducible rfl); done)); (try simp only [Act.put, List.setIfInBounds_toArray, List.set_cons_zero, List.set_cons_succ])
        (refine takeH (i := 24) (v := ?_) (by decide +kernel) (by decide +kernel) (by kernel_rfl) (by rfl) (by exact fun _ _ _ h => h) (by rfl) ?_ (by assumption) ?_); rotate_left; (focus (intro w hSw; (try dsimp only at hSw); go_simp; (try with_reducible rfl); done)); (try simp only [Act.put, List.setIfInBounds_toArray, List.set_cons_zero, List.set_cons_succ])
        (refine takeH (i := 25) (v := ?_) (by decide +kernel) (by decide +kernel) (by kernel_rfl) (by rfl) (by exact fun _ _ _ h => h) (by rfl) ?_ (by assumption) ?_); rotate_left; (focus (intro w hSw; (try dsimp only at hSw); go_simp; (try with_reducible rfl); done)); (try simp only [Act.put, List.setIfInBounds_toArray, List.set_cons_zero, List.set_cons_succ])
        (refine takeH (i := 26) (v := ?_) (by decide +kernel) (by decide +kernel) (by kernel_rfl) (by rfl) (by exact fun _ _ _ h => h) (by rfl) ?_ (by assumption) ?_); rotate_left; (focus (intro w hSw; (try dsimp only at hSw); go_simp; (try with_reducible rfl); done)); (try simp only [Act.put, List.setIfInBounds_toArray, List.set_cons_zero, List.set_cons_succ])
        (refine takeH (i := 27) (v := ?_) (by decide +kernel) (by decide +kernel) (by kernel_rfl) (by rfl) (by exact fun _ _ _ h => h) (by rfl) ?_ (by assumption) ?_); rotate_left; (focus (intro w hSw; (try dsimp only at hSw); go_simp; (try with_reducible rfl); done)); (try simp only [Act.put, List.setIfInBounds_toArray, List.set_cons_zero, List.set_cons_succ])
        (refine takeH (i := 28) (v := ?_) (by decide +kernel) (by decide +kernel) (by kernel_rfl) (by rfl) (by exact fun _ _ _ h => h) (by rfl) ?_ (by assumption) ?_); rotate_left; (focus (intro w hSw; (try dsimp only at hSw); go_simp; (try with_reducible rfl); done)); (try simp only [Act.put, List.setIfInBounds_toArray, List.set_cons_zero, List.set_cons_succ])
        (refine takeH (i := 29) (v := ?_) (by decide +kernel) (by decide +kernel) (by kernel_rfl) (by rfl) (by exact fun _ _ _ h => h) (by rfl) ?_ (by assumption) ?_); rotate_left; (focus (intro w hSw; (try dsimp only at hSw); go_simp; (try with_reducible rfl); done)); (try simp only [Act.put, List.setIfInBounds_toArray, List.set_cons_zero, List.set_cons_succ])
        (refine takeH (i := 30) (v := ?_) (by decide +kernel) (by decide +kernel) (by kernel_rfl) (by rfl) (by exact fun _ _ _ h => h) (by rfl) ?_ (by assumption) ?_); rotate_left; (focus (intro w hSw; (try dsimp only at hSw); go_simp; (try with_reducible rfl); done)); (try simp only [Act.put, List.setIfInBounds_toArray, List.set_cons_zero, List.set_cons_succ])
        (refine takeH (i := 31) (v := ?_) (by decide +kernel) (by decide +kernel) (by kernel_rfl) (by rfl) (by exact fun _ _ _ h => h) (by rfl) ?_ (by assumption) ?_); rotate_left; (focus (intro w hSw; (try dsimp only at hSw); go_simp; (try with_reducible rfl); done)); (try simp only [Act.put, List.setIfInBounds_toArray, List.set_cons_zero, List.set_cons_succ])
        (refine takeH (i := 32) (v := ?_) (by decide +kernel) (by decide +kernel) (by kernel_rfl) (by rfl) (by exact fun _ _ _ h => h) (by rfl) ?_ (by assumption) ?_); rotate_left; (focus (intro w hSw; (try dsimp only at hSw); go_simp; (try with_reducible rfl); done)); (try simp only [Act.put, List.setIfInBounds_toArray, List.set_cons_zero, List.set_cons_succ])
        (refine takeH (i := 33) (v := ?_) (by decide +kernel) (by decide +kernel) (by kernel_rfl) (by rfl) (by exact fun _ _ _ h => h) (by rfl) ?_ (by assumption) ?_); rotate_left; (focus (intro w hSw; (try dsimp only at hSw); go_simp; (try with_reducible rfl); done)); (try simp only [Act.put, List.setIfInBounds_toArray, List.set_cons_zero, List.set_cons_succ])
        (refine takeH (i := 34) (v := ?_) (by decide +kernel) (by decide +kernel) (by kernel_rfl) (by rfl) (by exact fun _ _ _ h => h) (by rfl) ?_ (by assumption) ?_); rotate_left; (focus (intro w hSw; (try dsimp only at hSw); go_simp; (try with_reducible rfl); done)); (try simp only [Act.put, List.setIfInBounds_toArray, List.set_cons_zero, List.set_cons_succ])
        (refine takeH (i := 35) (v := ?_) (by decide +kernel) (by decide +kernel) (by kernel_rfl) (by rfl) (by exact fun _ _ _ h => h) (by rfl) ?_ (by assumption) ?_); rotate_left; (focus (intro w hSw; (try dsimp only at hSw); go_simp; (try with_reducible rfl); done)); (try simp only [Act.put, List.setIfInBounds_toArray, List.set_cons_zero, List.set_cons_succ])
        refine nextH (i := 36) (by decide +kernel) (by rfl) (by rfl) (fun K hK => ?_)
        (go_simp; go_at_call 60; (refine (C6.out _ ⟨(F12.at 3 rfl).1, (F12.at 2 rfl).1⟩ ⟨(F12.at 6 rfl).1, (F12.at 5 rfl).1⟩).mono ?_); (rintro e w13 ⟨rfl, hb13⟩); (have hc13 := (bcell hb13).1); (have S13 := Lib.hid (And.intro ((hc13 _ _ (Nat.lt_of_lt_of_le zr y12)).trans S12.out.1) (And.intro ((hc13 _ _ (Nat.lt_of_lt_of_le zr y12)).trans S12.out.2.1) (And.intro ((hc13 _ _ (Nat.lt_of_lt_of_le zr y12)).trans S12.out.2.2.1) (And.intro ((hc13 _ _ (Nat.lt_of_lt_of_le zr y12)).trans S12.out.2.2.2.1) (And.intro ((hc13 _ _ (Nat.lt_of_lt_of_le zr y12)).trans S12.out.2.2.2.2.1) (And.intro ((hc13 _ _ (Nat.lt_of_lt_of_le zr y12)).trans S12.out.2.2.2.2.2.1) (And.intro ((hc13 _ _ (Nat.lt_of_lt_of_le zr y12)).trans S12.out.2.2.2.2.2.2.1) (And.intro ((hc13 _ _ (Nat.lt_of_lt_of_le zr y12)).trans S12.out.2.2.2.2.2.2.2.1) (And.intro ((hc13 _ _ (Nat.lt_of_lt_of_le zr y12)).trans S12.out.2.2.2.2.2.2.2.2.1) (And.intro ((hc13 _ _ (Nat.lt_of_lt_of_le zp y12)).trans S12.out.2.2.2.2.2.2.2.2.2.1) (And.intro ((hc13 _ _ (Nat.lt_of_lt_of_le zp y12)).trans S12.out.2.2.2.2.2.2.2.2.2.2.1) (And.intro ((hc13 _ _ (Nat.lt_of_lt_of_le zp y12)).trans S12.out.2.2.2.2.2.2.2.2.2.2.2.1) (And.intro ((hc13 _ _ (Nat.lt_of_lt_of_le zl y12)).trans S12.out.2.2.2.2.2.2.2.2.2.2.2.2.1) (And.intro ((hc13 _ _ (Nat.lt_of_lt_of_le zl y12)).trans S12.out.2.2.2.2.2.2.2.2.2.2.2.2.2.1) (And.intro ((hc13 _ _ (Nat.lt_of_lt_of_le zl y12)).trans S12.out.2.2.2.2.2.2.2.2.2.2.2.2.2.2.1) (And.intro ((hc13 _ _ (Nat.lt_of_lt_of_le zl y12)).trans S12.out.2.2.2.2.2.2.2.2.2.2.2.2.2.2.2.1) (And.intro ((hc13 _ _ (Nat.lt_of_lt_of_le zz y12)).trans S12.out.2.2.2.2.2.2.2.2.2.2.2.2.2.2.2.2.1) (And.intro ((hc13 _ _ (Nat.lt_of_lt_of_le zz y12)).trans S12.out.2.2.2.2.2.2.2.2.2.2.2.2.2.2.2.2.2.1) (And.intro ((hc13 _ _ (Nat.lt_of_lt_of_le zz y12)).trans S12.out.2.2.2.2.2.2.2.2.2.2.2.2.2.2.2.2.2.2.1) (And.intro ((hc13 _ _ (Nat.lt_of_lt_of_le zz y12)).trans S12.out.2.2.2.2.2.2.2.2.2.2.2.2.2.2.2.2.2.2.2.1) ((hc13 _ _ (Nat.lt_of_lt_of_le hbt y12)).trans S12.out.2.2.2.2.2.2.2.2.2.2.2.2.2.2.2.2.2.2.2.2)))))))))))))))))))))); (have F13 := F12.step hb13); (have K13 := Lib.hid (below_next K12.out hb13)); clear hb13 hc13)
        refine hK.out _ _ ?_ (fun hHeld' => ?_)
        (focus ((try dsimp only); (first | done | ((first | (with_reducible exact S13.out) | (with_reducible exact S12.out) | (with_reducible exact S11.out) | (with_reducible exact S10.out) | (with_reducible exact S9.out)); done))))
        clear hK K hHeld
        have hHeld := hHeld'
        clear hHeld'
        (try simp only [Act.put, List.setIfInBounds_toArray, List.set_cons_zero, List.set_cons_succ])
        (refine takeH (i := 37) (v := ?_) (by decide +kernel) (by decide +kernel) (by kernel_rfl) (by rfl) (by exact fun _ _ _ h => h) (by rfl) ?_ (by assumption) ?_); rotate_left; (focus (intro w hSw; (try dsimp only at hSw); go_simp; (try with_reducible rfl); done)); (try simp only [Act.put, List.setIfInBounds_toArray, List.set_cons_zero, List.set_cons_succ])
        (refine takeH (i := 38) (v := ?_) (by decide +kernel) (by decide +kernel) (by kernel_rfl) (by rfl) (by exact fun _ _ _ h => h) (by rfl) ?_ (by assumption) ?_); rotate_left; (focus (intro w hSw; (try dsimp only at hSw); go_simp; (try with_reducible rfl); done)); (try simp only [Act.put, List.setIfInBounds_toArray, List.set_cons_zero, List.set_cons_succ])
        (refine takeH (i := 39) (v := ?_) (by decide +kernel) (by decide +kernel) (by kernel_rfl) (by rfl) (by exact fun _ _ _ h => h) (by rfl) ?_ (by assumption) ?_); rotate_left; (focus (intro w hSw; (try dsimp only at hSw); go_simp; (try with_reducible rfl); done)); (try simp only [Act.put, List.setIfInBounds_toArray, List.set_cons_zero, List.set_cons_succ])
        refine wpAnyH_done (by decide +kernel) ?_ _
        clear hHeld hl0 hkki wrk hrl c0 c1 c2 c3 c4 c5 c6 c7 c8 d0 d1 d2 l0 l1 l2 l3 z0 z1 z2 z3 kt zr zp zl zz S9 S10 S11 S12 F10 F11 F9 F6 K10 K11 y10 y11 y12 S13 F12 K12
        have CW := Lib.hid ((R.boxc (F13.at 8 rfl)).1)
        have ZW := Lib.hid (⟨F13.at 1 rfl 1 _ rfl, by have := F13.at 7 rfl 1 _ rfl; simpa using this, by have := F13.at 7 rfl 2 _ rfl; simpa using this⟩ : w13.cell? ⟨w5.heap.size, 1, none⟩ = some (.slice D.sa 2 D.sc) ∧ w13.cell? ⟨w2.heap.size + 1, 1, none⟩ = some (.slice SA 2 SC) ∧ w13.cell? ⟨w2.heap.size + 1, 2, none⟩ = some (.int .i64 0))
        obtain ⟨bz, oz, hza, hbz, kz0, kz1⟩ := two_at ((F13.at 2 rfl).1 : Ints w13 D.sa [zu, pv])
        obtain ⟨bs_, os_, hsa, hbs, ks0, ks1⟩ := two_at ((F13.at 9 rfl).1 : Ints w13 SA [pu, pv])
        have KZ := Lib.hid (And.intro kz0 (And.intro kz1 (And.intro ks0 ks1)))
        rw [hza, hsa] at ZW
        clear kz0 kz1 ks0 ks1
        go_wp2
        go_loopw [14, 15] (fun sv iv wr => ∃ (j m : Nat), iv = .int .i64 j ∧ sv = .int .i64 (cntS (tl.take j)) ∧ j ≤ tl.length ∧ Hid (wr = w13.drewN m)) (fun _ iv _ => tl.length - (intOf iv).toNat)
        case atStart => exact ⟨0, 0, rfl, rfl, Nat.zero_le _, Lib.hid rfl⟩
        case round =>
          obtain ⟨j, m, rfl, rfl, hj, HWR⟩ := hrel
          have HTR : Hid (Ints wr (some ⟨bt, ot, none⟩) tl) := by unfold Hid; rw [HWR.out]; exact HROW.out _ (K13.out.trans (below_draws _ _ m))
          by_cases hlt : j < tl.length
          · obtain ⟨b9, o9, h9, hb9, k9⟩ := Ints.at HTR.out hlt
            cases h9
            have hq := HALL.out tl[j] (List.getElem_mem hlt)
            have HCN := Lib.hid (cntS_next hlt)
            have hcb := cntS_bd (tl.take j)
            have hcl : (tl.take j).length ≤ 100000 := by simp; omega
            have hcb2 : 0 ≤ cntS (tl.take j) ∧ cntS (tl.take j) ≤ 100000 := by omega
            obtain ⟨q, hqq⟩ : ∃ q, q = tl[j] := ⟨_, rfl⟩
            rw [← hqq] at k9 hq HCN
            clear hqq hcb hcl
            have c0 : wr.cell? ⟨w2.heap.size, 0, none⟩ = some (.int .i64 r.pits) := by rw [HWR.out, World.cell?_drewN]; exact CW.out
            have q1 : decide (q < -1) = false := by simp; omega
            have q2 : decide (2 * r.pits ≤ q) = false := by simp; omega
            have wr1 : IntKind.i64.wrap (2 * r.pits) = 2 * r.pits := IntWalk.i64_in _ (by omega)
            go_wp2
            go_quiet (fail)
            clear wr1
            by_cases hq1 : q = -1
            · have q3 : (q == -1) = true := by simpa using hq1
              have HQ1 := Lib.hid hq1
              clear hq1
              go_wp2
              go_roundw
              case rel => exact ⟨j + 1, _, by go_num, by rw [HCN.out, if_pos HQ1.out], by omega, by unfold Hid; rw [HWR.out]; exact World.drewN_drewN ..⟩
              case measure => simp [intOf]; omega
            · have q3 : (q == -1) = false := by simpa using hq1
              have HQ1 := Lib.hid hq1
              clear hq1
              go_wp2
              go_roundw
              case rel => exact ⟨j + 1, _, by go_num, by rw [HCN.out, if_neg HQ1.out, Int.add_zero], by omega, by unfold Hid; rw [HWR.out]; exact World.drewN_drewN ..⟩
              case measure => simp [intOf]; omega
        
          · obtain rfl : j = tl.length := by omega
            have S24 : Hid (wr.drew.cell? ⟨w5.heap.size, 1, none⟩ = some (.slice (some ⟨bz, oz, none⟩) 2 D.sc) ∧ wr.drew.cell? ⟨w2.heap.size + 1, 1, none⟩ = some (.slice (some ⟨bs_, os_, none⟩) 2 SC) ∧ wr.drew.cell? ⟨w2.heap.size + 1, 2, none⟩ = some (.int .i64 0) ∧ wr.drew.cell? ⟨bz, oz, none⟩ = some (.int .i64 zu) ∧ wr.drew.cell? ⟨bz, oz + 1, none⟩ = some (.int .i64 pv) ∧ wr.drew.cell? ⟨bs_, os_, none⟩ = some (.int .i64 pu) ∧ wr.drew.cell? ⟨bs_, os_ + 1, none⟩ = some (.int .i64 pv)) := by
              unfold Hid
              rw [HWR.out]
              exact ⟨ZW.out.1, ZW.out.2.1, ZW.out.2.2, KZ.out.1, KZ.out.2.1, KZ.out.2.2.1, KZ.out.2.2.2⟩
            have q1 : (zu - pu == cntS tl) = true := by rw [HOWN.out]; simp
            have wr1 : IntKind.i64.wrap 1 = 1 := IntWalk.i64_in _ (by omega)
            have wr2 : IntKind.i64.wrap (zu - pu) = zu - pu := IntWalk.i64_in _ (by omega)
            have hB : Hid (Below w2.heap.size w2 wr) := by unfold Hid; rw [HWR.out]; exact (F13.drawn m).below
            go_upto_region 24 with fail
            refine heldH (S := fun W => W.cell? ⟨w5.heap.size, 1, none⟩ = some (.slice (some ⟨bz, oz, none⟩) 2 D.sc) ∧ W.cell? ⟨w2.heap.size + 1, 1, none⟩ = some (.slice (some ⟨bs_, os_, none⟩) 2 SC) ∧ W.cell? ⟨w2.heap.size + 1, 2, none⟩ = some (.int .i64 0) ∧ W.cell? ⟨bz, oz, none⟩ = some (.int .i64 zu) ∧ W.cell? ⟨bz, oz + 1, none⟩ = some (.int .i64 pv) ∧ W.cell? ⟨bs_, os_, none⟩ = some (.int .i64 pu) ∧ W.cell? ⟨bs_, os_ + 1, none⟩ = some (.int .i64 pv)) (n := 33) (listed := #[false, false, false, false, false, false, false, false, false, false, false, false, false, false, false, false, false, false, false, false, false, false, false, false, false, false, false, false, false, false, false, false, false]) (by kernel_rfl) (by rfl) (by rfl) ?_ (fun hHeld => ?_)
            (focus ((try dsimp only); (first | done | ((first | (with_reducible exact S24.out) | exact S24.out); done))))
            (refine takeH (i := 0) (v := ?_) (by decide +kernel) (by decide +kernel) (by kernel_rfl) (by rfl) (by exact fun _ _ _ h => h) (by rfl) ?_ (by assumption) ?_); rotate_left; (focus (intro w hSw; (try dsimp only at hSw); go_simp; (try with_reducible rfl); done)); (try simp only [Act.put, List.setIfInBounds_toArray, List.set_cons_zero, List.set_cons_succ])
            (refine takeH (i := 1) (v := ?_) (by decide +kernel) (by decide +kernel) (by kernel_rfl) (by rfl) (by exact fun _ _ _ h => h) (by rfl) ?_ (by assumption) ?_); rotate_left; (focus (intro w hSw; (try dsimp only at hSw); go_simp; (try with_reducible rfl); done)); (try simp only [Act.put, List.setIfInBounds_toArray, List.set_cons_zero, List.set_cons_succ])
            (refine takeH (i := 2) (v := ?_) (by decide +kernel) (by decide +kernel) (by kernel_rfl) (by rfl) (by exact fun _ _ _ h => h) (by rfl) ?_ (by assumption) ?_); rotate_left; (focus (intro w hSw; (try dsimp only at hSw); go_simp; (try with_reducible rfl); done)); (try simp only [Act.put, List.setIfInBounds_toArray, List.set_cons_zero, List.set_cons_succ])
            (refine takeH (i := 3) (v := ?_) (by decide +kernel) (by decide +kernel) (by kernel_rfl) (by rfl) (by exact fun _ _ _ h => h) (by rfl) ?_ (by assumption) ?_); rotate_left; (focus (intro w hSw; (try dsimp only at hSw); go_simp; (try with_reducible rfl); done)); (try simp only [Act.put, List.setIfInBounds_toArray, List.set_cons_zero, List.set_cons_succ])
            (refine takeH (i := 4) (v := ?_) (by decide +kernel) (by decide +kernel) (by kernel_rfl) (by rfl) (by exact fun _ _ _ h => h) (by rfl) ?_ (by assumption) ?_); rotate_left; (focus (intro w hSw; (try dsimp only at hSw); go_simp; (try with_reducible rfl); done)); (try simp only [Act.put, List.setIfInBounds_toArray, List.set_cons_zero, List.set_cons_succ])
            (refine takeH (i := 5) (v := ?_) (by decide +kernel) (by decide +kernel) (by kernel_rfl) (by rfl) (by exact fun _ _ _ h => h) (by rfl) ?_ (by assumption) ?_); rotate_left; (focus (intro w hSw; (try dsimp only at hSw); go_simp; (try with_reducible rfl); done)); (try simp only [Act.put, List.setIfInBounds_toArray, List.set_cons_zero, List.set_cons_succ])
            (refine takeH (i := 6) (v := ?_) (by decide +kernel) (by decide +kernel) (by kernel_rfl) (by rfl) (by exact fun _ _ _ h => h) (by rfl) ?_ (by assumption) ?_); rotate_left; (focus (intro w hSw; (try dsimp only at hSw); go_simp; (try with_reducible rfl); done)); (try simp only [Act.put, List.setIfInBounds_toArray, List.set_cons_zero, List.set_cons_succ])
            (refine takeH (i := 7) (v := ?_) (by decide +kernel) (by decide +kernel) (by kernel_rfl) (by rfl) (by exact fun _ _ _ h => h) (by rfl) ?_ (by assumption) ?_); rotate_left; (focus (intro w hSw; (try dsimp only at hSw); go_simp; (try with_reducible rfl); done)); (try simp only [Act.put, List.setIfInBounds_toArray, List.set_cons_zero, List.set_cons_succ])
            (refine takeH (i := 8) (v := ?_) (by decide +kernel) (by decide +kernel) (by kernel_rfl) (by rfl) (by exact fun _ _ _ h => h) (by rfl) ?_ (by assumption) ?_); rotate_left; (focus (intro w hSw; (try dsimp only at hSw); go_simp; (try with_reducible rfl); done)); (try simp only [Act.put, List.setIfInBounds_toArray, List.set_cons_zero, List.set_cons_succ])
            (refine takeH (i := 9) (v := ?_) (by decide +kernel) (by decide +kernel) (by kernel_rfl) (by rfl) (by exact fun _ _ _ h => h) (by rfl) ?_ (by assumption) ?_); rotate_left; (focus (intro w hSw; (try dsimp only at hSw); go_simp; (try with_reducible rfl); done)); (try simp only [Act.put, List.setIfInBounds_toArray, List.set_cons_zero, List.set_cons_succ])
            (refine takeH (i := 10) (v := ?_) (by decide +kernel) (by decide +kernel) (by kernel_rfl) (by rfl) (by exact fun _ _ _ h => h) (by rfl) ?_ (by assumption) ?_); rotate_left; (focus (intro w hSw; (try dsimp only at hSw); go_simp; (try with_reducible rfl); done)); (try simp only [Act.put, List.setIfInBounds_toArray, List.set_cons_zero, List.set_cons_succ])
            (refine takeH (i := 11) (v := ?_) (by decide +kernel) (by decide +kernel) (by kernel_rfl) (by rfl) (by exact fun _ _ _ h => h) (by rfl) ?_ (by assumption) ?_); rotate_left; (focus (intro w hSw; (try dsimp only at hSw); go_simp; (try with_reducible rfl); done)); (try simp only [Act.put, List.setIfInBounds_toArray, List.set_cons_zero, List.set_cons_succ])
            (refine takeH (i := 12) (v := ?_) (by decide +kernel) (by decide +kernel) (by kernel_rfl) (by rfl) (by exact fun _ _ _ h => h) (by rfl) ?_ (by assumption) ?_); rotate_left; (focus (intro w hSw; (try dsimp only at hSw); go_simp; (try with_reducible rfl); done)); (try simp only [Act.put, List.setIfInBounds_toArray, List.set_cons_zero, List.set_cons_succ])
            (refine takeH (i := 13) (v := ?_) (by decide +kernel) (by decide +kernel) (by kernel_rfl) (by rfl) (by exact fun _ _ _ h => h) (by rfl) ?_ (by assumption) ?_); rotate_left; (focus (intro w hSw; (try dsimp only at hSw); go_simp; (try with_reducible rfl); done)); (try simp only [Act.put, List.setIfInBounds_toArray, List.set_cons_zero, List.set_cons_succ])
            (refine takeH (i := 14) (v := ?_) (by decide +kernel) (by decide +kernel) (by kernel_rfl) (by rfl) (by exact fun _ _ _ h => h) (by rfl) ?_ (by assumption) ?_); rotate_left; (focus (intro w hSw; (try dsimp only at hSw); go_simp; (try with_reducible rfl); done)); (try simp only [Act.put, List.setIfInBounds_toArray, List.set_cons_zero, List.set_cons_succ])
            (refine takeH (i := 15) (v := ?_) (by decide +kernel) (by decide +kernel) (by kernel_rfl) (by rfl) (by exact fun _ _ _ h => h) (by rfl) ?_ (by assumption) ?_); rotate_left; (focus (intro w hSw; (try dsimp only at hSw); go_simp; (try with_reducible rfl); done)); (try simp only [Act.put, List.setIfInBounds_toArray, List.set_cons_zero, List.set_cons_succ])
            (refine takeH (i := 16) (v := ?_) (by decide +kernel) (by decide +kernel) (by kernel_rfl) (by rfl) (by exact fun _ _ _ h => h) (by rfl) ?_ (by assumption) ?_); rotate_left; (focus (intro w hSw; (try dsimp only at hSw); go_simp; (try with_reducible rfl); done)); (try simp only [Act.put, List.setIfInBounds_toArray, List.set_cons_zero, List.set_cons_succ])
            (refine takeH (i := 17) (v := ?_) (by decide +kernel) (by decide +kernel) (by kernel_rfl) (by rfl) (by exact fun _ _ _ h => h) (by rfl) ?_ (by assumption) ?_); rotate_left; (focus (intro w hSw; (try dsimp only at hSw); go_simp; (try with_reducible rfl); done)); (try simp only [Act.put, List.setIfInBounds_toArray, List.set_cons_zero, List.set_cons_succ])
            (refine takeH (i := 18) (v := ?_) (by decide +kernel) (by decide +kernel) (by kernel_rfl) (by rfl) (by exact fun _ _ _ h => h) (by rfl) ?_ (by assumption) ?_); rotate_left; (focus (intro w hSw; (try dsimp only at hSw); go_simp; (try with_reducible rfl); done)); (try simp only [Act.put, List.setIfInBounds_toArray, List.set_cons_zero, List.set_cons_succ])
            (refine takeH (i := 19) (v := ?_) (by decide +kernel) (by decide +kernel) (by kernel_rfl) (by rfl) (by exact fun _ _ _ h => h) (by rfl) ?_ (by assumption) ?_); rotate_left; (focus (intro w hSw; (try dsimp only at hSw); go_simp; (try with_reducible rfl); done)); (try simp only [Act.put, List.setIfInBounds_toArray, List.set_cons_zero, List.set_cons_succ])
            (refine takeH (i := 20) (v := ?_) (by decide +kernel) (by decide +kernel) (by kernel_rfl) (by rfl) (by exact fun _ _ _ h => h) (by rfl) ?_ (by assumption) ?_); rotate_left; (focus (intro w hSw; (try dsimp only at hSw); go_simp; (try with_reducible rfl); done)); (try simp only [Act.put, List.setIfInBounds_toArray, List.set_cons_zero, List.set_cons_succ])
            (refine takeH (i := 21) (v := ?_) (by decide +kernel) (by decide +kernel) (by kernel_rfl) (by rfl) (by exact fun _ _ _ h => h) (by rfl) ?_ (by assumption) ?_); rotate_left; (focus (intro w hSw; (try dsimp only at hSw); go_simp; (try with_reducible rfl); done)); (try simp only [Act.put, List.setIfInBounds_toArray, List.set_cons_zero, List.set_cons_succ])
            (refine takeH (i := 22) (v := ?_) (by decide +kernel) (by decide +kernel) (by kernel_rfl) (by rfl) (by exact fun _ _ _ h => h) (by rfl) ?_ (by assumption) ?_); rotate_left; (focus (intro w hSw; (try dsimp only at hSw); go_simp; (try with_reducible rfl); done)); (try simp only [Act.put, List.setIfInBounds_toArray, List.set_cons_zero, List.set_cons_succ])
            (refine takeH (i := 23) (v := ?_) (by decide +kernel) (by decide +kernel) (by kernel_rfl) (by rfl) (by exact fun _ _ _ h => h) (by rfl) ?_ (by assumption) ?_); rotate_left; (focus (intro w hSw; (try dsimp only at hSw); go_simp; (try with_reducible rfl); done)); (try simp only [Act.put, List.setIfInBounds_toArray, List.set_cons_zero, List.set_cons_succ])
            (refine takeH (i := 24) (v := ?_) (by decide +kernel) (by decide +kernel) (by kernel_rfl) (by rfl) (by exact fun _ _ _ h => h) (by rfl) ?_ (by assumption) ?_); rotate_left; (focus (intro w hSw; (try dsimp only at hSw); go_simp; (try with_reducible rfl); done)); (try simp only [Act.put, List.setIfInBounds_toArray, List.set_cons_zero, List.set_cons_succ])
            (refine takeH (i := 25) (v := ?_) (by decide +kernel) (by decide +kernel) (by kernel_rfl) (by rfl) (by exact fun _ _ _ h => h) (by rfl) ?_ (by assumption) ?_); rotate_left; (focus (intro w hSw; (try dsimp only at hSw); go_simp; (try with_reducible rfl); done)); (try simp only [Act.put, List.setIfInBounds_toArray, List.set_cons_zero, List.set_cons_succ])
            (refine takeH (i := 26) (v := ?_) (by decide +kernel) (by decide +kernel) (by kernel_rfl) (by rfl) (by exact fun _ _ _ h => h) (by rfl) ?_ (by assumption) ?_); rotate_left; (focus (intro w hSw; (try dsimp only at hSw); go_simp; (try with_reducible rfl); done)); (try simp only [Act.put, List.setIfInBounds_toArray, List.set_cons_zero, List.set_cons_succ])
            (refine takeH (i := 27) (v := ?_) (by decide +kernel) (by decide +kernel) (by kernel_rfl) (by rfl) (by exact fun _ _ _ h => h) (by rfl) ?_ (by assumption) ?_); rotate_left; (focus (intro w hSw; (try dsimp only at hSw); go_simp; (try with_reducible rfl); done)); (try simp only [Act.put, List.setIfInBounds_toArray, List.set_cons_zero, List.set_cons_succ])
            (refine takeH (i := 28) (v := ?_) (by decide +kernel) (by decide +kernel) (by kernel_rfl) (by rfl) (by exact fun _ _ _ h => h) (by rfl) ?_ (by assumption) ?_); rotate_left; (focus (intro w hSw; (try dsimp only at hSw); go_simp; (try with_reducible rfl); done)); (try simp only [Act.put, List.setIfInBounds_toArray, List.set_cons_zero, List.set_cons_succ])
            (refine takeH (i := 29) (v := ?_) (by decide +kernel) (by decide +kernel) (by kernel_rfl) (by rfl) (by exact fun _ _ _ h => h) (by rfl) ?_ (by assumption) ?_); rotate_left; (focus (intro w hSw; (try dsimp only at hSw); go_simp; (try with_reducible rfl); done)); (try simp only [Act.put, List.setIfInBounds_toArray, List.set_cons_zero, List.set_cons_succ])
            (refine takeH (i := 30) (v := ?_) (by decide +kernel) (by decide +kernel) (by kernel_rfl) (by rfl) (by exact fun _ _ _ h => h) (by rfl) ?_ (by assumption) ?_); rotate_left; (focus (intro w hSw; (try dsimp only at hSw); go_simp; (try with_reducible rfl); done)); (try simp only [Act.put, List.setIfInBounds_toArray, List.set_cons_zero, List.set_cons_succ])
            (refine takeH (i := 31) (v := ?_) (by decide +kernel) (by decide +kernel) (by kernel_rfl) (by rfl) (by exact fun _ _ _ h => h) (by rfl) ?_ (by assumption) ?_); rotate_left; (focus (intro w hSw; (try dsimp only at hSw); go_simp; (try with_reducible rfl); done)); (try simp only [Act.put, List.setIfInBounds_toArray, List.set_cons_zero, List.set_cons_succ])
            (refine takeH (i := 32) (v := ?_) (by decide +kernel) (by decide +kernel) (by kernel_rfl) (by rfl) (by exact fun _ _ _ h => h) (by rfl) ?_ (by assumption) ?_); rotate_left; (focus (intro w hSw; (try dsimp only at hSw); go_simp; (try with_reducible rfl); done)); (try simp only [Act.put, List.setIfInBounds_toArray, List.set_cons_zero, List.set_cons_succ])
            refine wpAnyH_done (by decide +kernel) ?_ _
            clear hHeld wr1 wr2
            go_wp2
            go_ret
            exact ⟨rfl, HW.out _ hB.out.drew⟩
  · have hold := sowing_hold r ⟨pp, [pu, pv], 1⟩ 1 mn HOK.out rfl (by omega) (by omega)
    obtain ⟨fn, hfn⟩ : ∃ fn : Nat, r.pits + (mn : Int) = fn := ⟨(r.pits + (mn : Int)).toNat, by omega⟩
    have e0 : (1 * r.pits + (mn : Int)).toNat = fn := by omega
    dsimp only at hold
    rw [e0] at hold
    have hfl : fn < pp.length := by have := HL3.out; omega
    have hgd : pp.getD fn 0 = pp[fn] := by rw [List.getD_eq_getElem?_getD]; simp [hfl]
    rw [hgd] at hold
    clear hgd e0
    obtain ⟨y, hy⟩ : ∃ y, y = lapR r ⟨pp, [pu, pv], 1⟩ mn := ⟨_, rfl⟩
    obtain ⟨z, hz⟩ : ∃ z, z = moveP r ⟨pp, [pu, pv], 1⟩ mn := ⟨_, rfl⟩
    obtain ⟨t, ht⟩ : ∃ t, t = pathP r ⟨pp, [pu, pv], 1⟩ mn := ⟨_, rfl⟩
    have M1 := fun W h => iSowLap_c r ⟨pp, [pu, pv], 1⟩ mn A SA AC SC W h (by dsimp only; omega) (by simp)
    have M2 := fun W h => iSowMove_c r ⟨pp, [pu, pv], 1⟩ mn A SA AC SC W h (by dsimp only; omega) (by simp)
    have M3 := fun W h => iSowPath_c r ⟨pp, [pu, pv], 1⟩ mn A SA AC SC W h (by dsimp only; omega) (by simp)
    have M4 := fun W h => iIsEndless_c r ⟨pp, [pu, pv], 1⟩ mn A SA AC SC W h (by dsimp only; omega) (by simp)
    rw [← hy] at M1 hold
    rw [← hz] at M2 hold
    rw [← ht] at M3 hold
    have M1 := Lib.hid M1
    have M2 := Lib.hid M2
    have M3 := Lib.hid M3
    clear hy hz ht
    have HO := Lib.hid hold
    clear hold
    go_wp2_with fail
    refine (M1.out _ ⟨(F2.at 3 rfl).1, (F2.at 2 rfl).1⟩).mono ?_
    rintro e w4 ⟨B, rfl, ho, hb⟩
    have G4 := fr_row (fr_row (F2.step hb) ho.row.pits) ho.row.stores
    have F4 := G4.alloc (y.1.cells B) 72
    obtain ⟨c0, c1, c2, c3, c4, c5, c6, c7, c8⟩ := R.boxc (G4.at 3 rfl)
    obtain ⟨d0, d1, d2⟩ := P.boxc (G4.at 2 rfl)
    have zr : w2.heap.size < w4.heap.size := G4.le 3 rfl
    have zp : w2.heap.size + 1 < w4.heap.size := by have := G4.le 2 rfl; simp at this; omega
    simp only [World.size_alloc] at d0 d1 d2
    clear hb ho G4 F2 M1
    go_wp2_with fail
    refine (M2.out _ ⟨(F4.at 6 rfl).1, (F4.at 5 rfl).1⟩).mono ?_
    rintro e w5 ⟨D, rfl, ho, hb⟩
    have G5 := fr_row (fr_row (F4.step hb) ho.row.pits) ho.row.stores
    have F5 := G5.alloc (z.1.cells D) 72
    clear c0 c1 c2 c3 c4 c5 c6 c7 c8 d0 d1 d2 zr zp
    obtain ⟨c0, c1, c2, c3, c4, c5, c6, c7, c8⟩ := R.boxc (G5.at 6 rfl)
    obtain ⟨d0, d1, d2⟩ := P.boxc (G5.at 5 rfl)
    have zr : w2.heap.size < w5.heap.size := G5.le 6 rfl
    have zp : w2.heap.size + 1 < w5.heap.size := by have := G5.le 5 rfl; simp at this; omega
    simp only [World.size_alloc] at d0 d1 d2
    clear hb ho G5 F4 M2
    go_wp2_with fail
    refine (M3.out _ ⟨(F5.at 9 rfl).1, (F5.at 8 rfl).1⟩).mono ?_
    rintro e w6 ⟨ta, tc, rfl, ho, hb⟩
    have F6 := fr_row (F5.step hb) (own_row ho)
    clear c0 c1 c2 c3 c4 c5 c6 c7 c8 d0 d1 d2 zr zp hb ho F5 M3
    obtain ⟨c0, c1, c2, c3, c4, c5, c6, c7, c8⟩ := R.boxc (F6.at 8 rfl)
    obtain ⟨d0, d1, d2⟩ := P.boxc (F6.at 7 rfl)
    have zr : w2.heap.size < w6.heap.size := F6.le 8 rfl
    have zp : w2.heap.size + 1 < w6.heap.size := by have := F6.le 7 rfl; simp at this; omega
    simp only [World.size_alloc] at d0 d1 d2
    obtain ⟨bp, op, hpa, hbp, kp⟩ := Ints.at (F6.at 10 rfl).1 hfl
    subst hpa
    rcases HO.out with ⟨hz0, hc1, hc2, hc3⟩ | ⟨hz0, hc1, hsum, hlap, hc3, hend, hrest, hlok⟩
    · obtain ⟨y, yc⟩ := y
      obtain ⟨z, zc⟩ := z
      obtain ⟨t, tc2⟩ := t
      dsimp only at hc1 hc2 hc3
      subst hc1 hc2 hc3
      rw [hz0] at kp
      clear hz0 HO
      go_wp2
      go_ret
      exact ⟨rfl, HW.out _ F6.below⟩
    obtain ⟨⟨lp, ls, ll, lm⟩, yc⟩ := y
    obtain ⟨z1, zc⟩ := z
    obtain ⟨tl, tcc⟩ := t
    dsimp only at hz0 hc1 hsum hlap hc3 hend hrest hlok F6
    subst hc1 hlap hc3
    have hz0b : (pp[fn] == 0) = false := by simpa using hz0
    obtain ⟨bl1, bl2, bl3, bl4, _⟩ := ok_bds hlok
    have C1 := fun W h => SownSeeds_c ⟨lp, ls, ll, 1⟩ B W h bl1 bl2 bl3 (by show ls.length ≤ 100; omega) (by show 0 < ls.length; omega)
    have C2 := fun W h => a2All_c ⟨pp, [pu, pv], 1⟩ (some ⟨bp, op, none⟩) SA AC SC W h HB1.out HB3.out (by dsimp only; omega) (by simp)
    dsimp only at C1 C2
    rw [hsum] at C1
    rw [hend] at M4
    obtain ⟨tot, hT⟩ : ∃ t, t = pp.sum + [pu, pv].sum := ⟨_, rfl⟩
    rw [← hT] at C1 C2
    have C1 := Lib.hid C1
    have C2 := Lib.hid C2
    have BL := Lib.hid bl4
    clear hz0 hsum hend hlok bl1 bl2 bl3 bl4 HO
    obtain ⟨l0, l1, l2, l3⟩ := (⟨F6.at 4 rfl 0 _ rfl, F6.at 4 rfl 1 _ rfl, F6.at 4 rfl 2 _ rfl, F6.at 4 rfl 3 _ rfl⟩ : _ ∧ _ ∧ _ ∧ _)
    have zl : w4.heap.size < w6.heap.size := F6.le 4 rfl
    have S6 : Hid (w6.drew.cell? ⟨w2.heap.size, 0, none⟩ = some (.int .i64 r.pits) ∧ w6.drew.cell? ⟨w2.heap.size, 1, none⟩ = some (.int .i64 r.seeds) ∧ w6.drew.cell? ⟨w2.heap.size, 2, none⟩ = some (.bool r.stores) ∧ w6.drew.cell? ⟨w2.heap.size, 3, none⟩ = some (.bool r.skip) ∧ w6.drew.cell? ⟨w2.heap.size, 4, none⟩ = some (.bool r.relay) ∧ w6.drew.cell? ⟨w2.heap.size, 5, none⟩ = some (.bool r.feed) ∧ w6.drew.cell? ⟨w2.heap.size, 6, none⟩ = some (.bool r.again) ∧ w6.drew.cell? ⟨w2.heap.size, 7, none⟩ = some (.int .i64 r.capture) ∧ w6.drew.cell? ⟨w2.heap.size, 8, none⟩ = some (.int .i64 r.slam) ∧ w6.drew.cell? ⟨w2.heap.size + 1, 0, none⟩ = some (.slice (some ⟨bp, op, none⟩) pp.length AC) ∧ w6.drew.cell? ⟨w2.heap.size + 1, 1, none⟩ = some (.slice SA 2 SC) ∧ w6.drew.cell? ⟨w2.heap.size + 1, 2, none⟩ = some (.int .i64 1) ∧ w6.drew.cell? ⟨w4.heap.size, 0, none⟩ = some (.slice B.pa lp.length B.pc) ∧ w6.drew.cell? ⟨w4.heap.size, 1, none⟩ = some (.slice B.sa ls.length B.sc) ∧ w6.drew.cell? ⟨w4.heap.size, 2, none⟩ = some (.int .i64 ll) ∧ w6.drew.cell? ⟨w4.heap.size, 3, none⟩ = some (.int .i64 1)) := (And.intro (c0) (And.intro (c1) (And.intro (c2) (And.intro (c3) (And.intro (c4) (And.intro (c5) (And.intro (c6) (And.intro (c7) (And.intro (c8) (And.intro (d0) (And.intro (d1) (And.intro (d2) (And.intro (l0) (And.intro (l1) (And.intro (l2) (l3))))))))))))))))
    rcases hrest with ⟨hz10, hrel⟩ | ⟨hz00, hso, hsame⟩
    · subst hz10
      rw [decide_eq_true rfl] at M4
      have M5 := Lib.hid M4
      have HREL := Lib.hid hrel
      clear M4 hrel
      go_upto_region 10 with fail
      refine heldH (S := fun W => W.cell? ⟨w2.heap.size, 0, none⟩ = some (.int .i64 r.pits) ∧ W.cell? ⟨w2.heap.size, 1, none⟩ = some (.int .i64 r.seeds) ∧ W.cell? ⟨w2.heap.size, 2, none⟩ = some (.bool r.stores) ∧ W.cell? ⟨w2.heap.size, 3, none⟩ = some (.bool r.skip) ∧ W.cell? ⟨w2.heap.size, 4, none⟩ = some (.bool r.relay) ∧ W.cell? ⟨w2.heap.size, 5, none⟩ = some (.bool r.feed) ∧ W.cell? ⟨w2.heap.size, 6, none⟩ = some (.bool r.again) ∧ W.cell? ⟨w2.heap.size, 7, none⟩ = some (.int .i64 r.capture) ∧ W.cell? ⟨w2.heap.size, 8, none⟩ = some (.int .i64 r.slam) ∧ W.cell? ⟨w2.heap.size + 1, 0, none⟩ = some (.slice (some ⟨bp, op, none⟩) pp.length AC) ∧ W.cell? ⟨w2.heap.size + 1, 1, none⟩ = some (.slice SA 2 SC) ∧ W.cell? ⟨w2.heap.size + 1, 2, none⟩ = some (.int .i64 1) ∧ W.cell? ⟨w4.heap.size, 0, none⟩ = some (.slice B.pa lp.length B.pc) ∧ W.cell? ⟨w4.heap.size, 1, none⟩ = some (.slice B.sa ls.length B.sc) ∧ W.cell? ⟨w4.heap.size, 2, none⟩ = some (.int .i64 ll) ∧ W.cell? ⟨w4.heap.size, 3, none⟩ = some (.int .i64 1)) (n := 28) (listed := #[false, false, false, false, false, false, false, false, false, false, false, false, false, false, false, false, false, false, false, false, false, false, false, false, false, false, false, false]) (by kernel_rfl) (by rfl) (by rfl) ?_ (fun hHeld => ?_)
      (focus ((try dsimp only); (first | done | ((first | (with_reducible exact S9.out) | (with_reducible exact S8.out) | (with_reducible exact S7.out) | (with_reducible exact S6.out)); done))))
      (refine takeH (i := 0) (v := ?_) (by decide +kernel) (by decide +kernel) (by kernel_rfl) (by rfl) (by exact fun _ _ _ h => h) (by rfl) ?_ (by assumption) ?_); rotate_left; (focus (intro w hSw; (try dsimp only at hSw); go_simp; (try with_reducible rfl); done)); (try simp only [Act.put, List.setIfInBounds_toArray, List.set_cons_zero, List.set_cons_succ])
      (refine takeH (i := 1) (v := ?_) (by decide +kernel) (by decide +kernel) (by kernel_rfl) (by rfl) (by exact fun _ _ _ h => h) (by rfl) ?_ (by assumption) ?_); rotate_left; (focus (intro w hSw; (try dsimp only at hSw); go_simp; (try with_reducible rfl); done)); (try simp only [Act.put, List.setIfInBounds_toArray, List.set_cons_zero, List.set_cons_succ])
      (refine takeH (i := 2) (v := ?_) (by decide +kernel) (by decide +kernel) (by kernel_rfl) (by rfl) (by exact fun _ _ _ h => h) (by rfl) ?_ (by assumption) ?_); rotate_left; (focus (intro w hSw; (try dsimp only at hSw); go_simp; (try with_reducible rfl); done)); (try simp only [Act.put, List.setIfInBounds_toArray, List.set_cons_zero, List.set_cons_succ])
      (refine takeH (i := 3) (v := ?_) (by decide +kernel) (by decide +kernel) (by kernel_rfl) (by rfl) (by exact fun _ _ _ h => h) (by rfl) ?_ (by assumption) ?_); rotate_left; (focus (intro w hSw; (try dsimp only at hSw); go_simp; (try with_reducible rfl); done)); (try simp only [Act.put, List.setIfInBounds_toArray, List.set_cons_zero, List.set_cons_succ])
      (refine takeH (i := 5) (v := ?_) (by decide +kernel) (by decide +kernel) (by kernel_rfl) (by rfl) (by exact fun _ _ _ h => h) (by rfl) ?_ (by assumption) ?_); rotate_left; (focus (intro w hSw; (try dsimp only at hSw); go_simp; (try with_reducible rfl); done)); (try simp only [Act.put, List.setIfInBounds_toArray, List.set_cons_zero, List.set_cons_succ])
      refine nextH (i := 4) (by decide +kernel) (by rfl) (by rfl) (fun K hK => ?_)
      (go_simp; go_at_call 56; (refine (C1.out _ ⟨(F6.drew.at 6 rfl).1, (F6.drew.at 5 rfl).1⟩).mono ?_); (rintro e w7 ⟨rfl, hb7⟩); (have hc7 := (bcell hb7).1); (have S7 := Lib.hid (And.intro ((hc7 _ _ zr).trans S6.out.1) (And.intro ((hc7 _ _ zr).trans S6.out.2.1) (And.intro ((hc7 _ _ zr).trans S6.out.2.2.1) (And.intro ((hc7 _ _ zr).trans S6.out.2.2.2.1) (And.intro ((hc7 _ _ zr).trans S6.out.2.2.2.2.1) (And.intro ((hc7 _ _ zr).trans S6.out.2.2.2.2.2.1) (And.intro ((hc7 _ _ zr).trans S6.out.2.2.2.2.2.2.1) (And.intro ((hc7 _ _ zr).trans S6.out.2.2.2.2.2.2.2.1) (And.intro ((hc7 _ _ zr).trans S6.out.2.2.2.2.2.2.2.2.1) (And.intro ((hc7 _ _ zp).trans S6.out.2.2.2.2.2.2.2.2.2.1) (And.intro ((hc7 _ _ zp).trans S6.out.2.2.2.2.2.2.2.2.2.2.1) (And.intro ((hc7 _ _ zp).trans S6.out.2.2.2.2.2.2.2.2.2.2.2.1) (And.intro ((hc7 _ _ zl).trans S6.out.2.2.2.2.2.2.2.2.2.2.2.2.1) (And.intro ((hc7 _ _ zl).trans S6.out.2.2.2.2.2.2.2.2.2.2.2.2.2.1) (And.intro ((hc7 _ _ zl).trans S6.out.2.2.2.2.2.2.2.2.2.2.2.2.2.2.1) ((hc7 _ _ zl).trans S6.out.2.2.2.2.2.2.2.2.2.2.2.2.2.2.2))))))))))))))))); (have y7 : w6.heap.size ≤ w7.heap.size := hb7.size); (have F7 := F6.drew.step hb7); clear hb7 hc7)
      refine hK.out _ _ ?_ (fun hHeld' => ?_)
      (focus ((try dsimp only); (first | done | ((first | (with_reducible exact S9.out) | (with_reducible exact S8.out) | (with_reducible exact S7.out) | (with_reducible exact S6.out)); done))))
      clear hK K hHeld
      have hHeld := hHeld'
      clear hHeld'
      (try simp only [Act.put, List.setIfInBounds_toArray, List.set_cons_zero, List.set_cons_succ])
      refine nextH (i := 6) (by decide +kernel) (by rfl) (by rfl) (fun K hK => ?_)
      (go_simp; go_at_call 57; (refine (C2.out _ ⟨(F7.at 10 rfl).1, (F7.at 9 rfl).1⟩).mono ?_); (rintro e w8 ⟨rfl, hb8⟩); (have hc8 := (bcell hb8).1); (have S8 := Lib.hid (And.intro ((hc8 _ _ (Nat.lt_of_lt_of_le zr y7)).trans S7.out.1) (And.intro ((hc8 _ _ (Nat.lt_of_lt_of_le zr y7)).trans S7.out.2.1) (And.intro ((hc8 _ _ (Nat.lt_of_lt_of_le zr y7)).trans S7.out.2.2.1) (And.intro ((hc8 _ _ (Nat.lt_of_lt_of_le zr y7)).trans S7.out.2.2.2.1) (And.intro ((hc8 _ _ (Nat.lt_of_lt_of_le zr y7)).trans S7.out.2.2.2.2.1) (And.intro ((hc8 _ _ (Nat.lt_of_lt_of_le zr y7)).trans S7.out.2.2.2.2.2.1) (And.intro ((hc8 _ _ (Nat.lt_of_lt_of_le zr y7)).trans S7.out.2.2.2.2.2.2.1) (And.intro ((hc8 _ _ (Nat.lt_of_lt_of_le zr y7)).trans S7.out.2.2.2.2.2.2.2.1) (And.intro ((hc8 _ _ (Nat.lt_of_lt_of_le zr y7)).trans S7.out.2.2.2.2.2.2.2.2.1) (And.intro ((hc8 _ _ (Nat.lt_of_lt_of_le zp y7)).trans S7.out.2.2.2.2.2.2.2.2.2.1) (And.intro ((hc8 _ _ (Nat.lt_of_lt_of_le zp y7)).trans S7.out.2.2.2.2.2.2.2.2.2.2.1) (And.intro ((hc8 _ _ (Nat.lt_of_lt_of_le zp y7)).trans S7.out.2.2.2.2.2.2.2.2.2.2.2.1) (And.intro ((hc8 _ _ (Nat.lt_of_lt_of_le zl y7)).trans S7.out.2.2.2.2.2.2.2.2.2.2.2.2.1) (And.intro ((hc8 _ _ (Nat.lt_of_lt_of_le zl y7)).trans S7.out.2.2.2.2.2.2.2.2.2.2.2.2.2.1) (And.intro ((hc8 _ _ (Nat.lt_of_lt_of_le zl y7)).trans S7.out.2.2.2.2.2.2.2.2.2.2.2.2.2.2.1) ((hc8 _ _ (Nat.lt_of_lt_of_le zl y7)).trans S7.out.2.2.2.2.2.2.2.2.2.2.2.2.2.2.2))))))))))))))))); (have y8 : w6.heap.size ≤ w8.heap.size := Nat.le_trans y7 hb8.size); (have F8 := F7.step hb8); clear hb8 hc8)
      refine hK.out _ _ ?_ (fun hHeld' => ?_)
      (focus ((try dsimp only); (first | done | ((first | (with_reducible exact S9.out) | (with_reducible exact S8.out) | (with_reducible exact S7.out) | (with_reducible exact S6.out)); done))))
      clear hK K hHeld
      have hHeld := hHeld'
      clear hHeld'
      (try simp only [Act.put, List.setIfInBounds_toArray, List.set_cons_zero, List.set_cons_succ])
      (refine takeH (i := 7) (v := ?_) (by decide +kernel) (by decide +kernel) (by kernel_rfl) (by rfl) (by exact fun _ _ _ h => h) (by rfl) ?_ (by assumption) ?_); rotate_left; (focus (intro w hSw; (try dsimp only at hSw); go_simp; (try with_reducible rfl); done)); (try simp only [Act.put, List.setIfInBounds_toArray, List.set_cons_zero, List.set_cons_succ])
      (refine takeH (i := 8) (v := ?_) (by decide +kernel) (by decide +kernel) (by kernel_rfl) (by rfl) (by exact fun _ _ _ h => h) (by rfl) ?_ (by assumption) ?_); rotate_left; (focus (intro w hSw; (try dsimp only at hSw); go_simp; (try with_reducible rfl); done)); (try simp only [Act.put, List.setIfInBounds_toArray, List.set_cons_zero, List.set_cons_succ])
      (refine takeH (i := 9) (v := ?_) (by decide +kernel) (by decide +kernel) (by kernel_rfl) (by rfl) (by exact fun _ _ _ h => h) (by rfl) ?_ (by assumption) ?_); rotate_left; (focus (intro w hSw; (try dsimp only at hSw); go_simp; (try with_reducible rfl); done)); (try simp only [Act.put, List.setIfInBounds_toArray, List.set_cons_zero, List.set_cons_succ])
      (refine takeH (i := 10) (v := ?_) (by decide +kernel) (by decide +kernel) (by kernel_rfl) (by rfl) (by exact fun _ _ _ h => h) (by rfl) ?_ (by assumption) ?_); rotate_left; (focus (intro w hSw; (try dsimp only at hSw); go_simp; (try with_reducible rfl); done)); (try simp only [Act.put, List.setIfInBounds_toArray, List.set_cons_zero, List.set_cons_succ])
      (refine takeH (i := 11) (v := ?_) (by decide +kernel) (by decide +kernel) (by kernel_rfl) (by rfl) (by exact fun _ _ _ h => h) (by rfl) ?_ (by assumption) ?_); rotate_left; (focus (intro w hSw; (try dsimp only at hSw); go_simp; (try with_reducible rfl); done)); (try simp only [Act.put, List.setIfInBounds_toArray, List.set_cons_zero, List.set_cons_succ])
      (refine takeH (i := 12) (v := ?_) (by decide +kernel) (by decide +kernel) (by kernel_rfl) (by rfl) (by exact fun _ _ _ h => h) (by rfl) ?_ (by assumption) ?_); rotate_left; (focus (intro w hSw; (try dsimp only at hSw); go_simp; (try with_reducible rfl); done)); (try simp only [Act.put, List.setIfInBounds_toArray, List.set_cons_zero, List.set_cons_succ])
      (refine takeH (i := 13) (v := ?_) (by decide +kernel) (by decide +kernel) (by kernel_rfl) (by rfl) (by exact fun _ _ _ h => h) (by rfl) ?_ (by assumption) ?_); rotate_left; (focus (intro w hSw; (try dsimp only at hSw); go_simp; (try with_reducible rfl); done)); (try simp only [Act.put, List.setIfInBounds_toArray, List.set_cons_zero, List.set_cons_succ])
      (refine takeH (i := 14) (v := ?_) (by decide +kernel) (by decide +kernel) (by kernel_rfl) (by rfl) (by exact fun _ _ _ h => h) (by rfl) ?_ (by assumption) ?_); rotate_left; (focus (intro w hSw; (try dsimp only at hSw); go_simp; (try with_reducible rfl); done)); (try simp only [Act.put, List.setIfInBounds_toArray, List.set_cons_zero, List.set_cons_succ])
      (refine takeH (i := 15) (v := ?_) (by decide +kernel) (by decide +kernel) (by kernel_rfl) (by rfl) (by exact fun _ _ _ h => h) (by rfl) ?_ (by assumption) ?_); rotate_left; (focus (intro w hSw; (try dsimp only at hSw); go_simp; (try with_reducible rfl); done)); (try simp only [Act.put, List.setIfInBounds_toArray, List.set_cons_zero, List.set_cons_succ])
      (refine takeH (i := 16) (v := ?_) (by decide +kernel) (by decide +kernel) (by kernel_rfl) (by rfl) (by exact fun _ _ _ h => h) (by rfl) ?_ (by assumption) ?_); rotate_left; (focus (intro w hSw; (try dsimp only at hSw); go_simp; (try with_reducible rfl); done)); (try simp only [Act.put, List.setIfInBounds_toArray, List.set_cons_zero, List.set_cons_succ])
      (refine takeH (i := 17) (v := ?_) (by decide +kernel) (by decide +kernel) (by kernel_rfl) (by rfl) (by exact fun _ _ _ h => h) (by rfl) ?_ (by assumption) ?_); rotate_left; (focus (intro w hSw; (try dsimp only at hSw); go_simp; (try with_reducible rfl); done)); (try simp only [Act.put, List.setIfInBounds_toArray, List.set_cons_zero, List.set_cons_succ])
      (refine takeH (i := 18) (v := ?_) (by decide +kernel) (by decide +kernel) (by kernel_rfl) (by rfl) (by exact fun _ _ _ h => h) (by rfl) ?_ (by assumption) ?_); rotate_left; (focus (intro w hSw; (try dsimp only at hSw); go_simp; (try with_reducible rfl); done)); (try simp only [Act.put, List.setIfInBounds_toArray, List.set_cons_zero, List.set_cons_succ])
      (refine takeH (i := 19) (v := ?_) (by decide +kernel) (by decide +kernel) (by kernel_rfl) (by rfl) (by exact fun _ _ _ h => h) (by rfl) ?_ (by assumption) ?_); rotate_left; (focus (intro w hSw; (try dsimp only at hSw); go_simp; (try with_reducible rfl); done)); (try simp only [Act.put, List.setIfInBounds_toArray, List.set_cons_zero, List.set_cons_succ])
      (refine takeH (i := 20) (v := ?_) (by decide +kernel) (by decide +kernel) (by kernel_rfl) (by rfl) (by exact fun _ _ _ h => h) (by rfl) ?_ (by assumption) ?_); rotate_left; (focus (intro w hSw; (try dsimp only at hSw); go_simp; (try with_reducible rfl); done)); (try simp only [Act.put, List.setIfInBounds_toArray, List.set_cons_zero, List.set_cons_succ])
      (refine takeH (i := 21) (v := ?_) (by decide +kernel) (by decide +kernel) (by kernel_rfl) (by rfl) (by exact fun _ _ _ h => h) (by rfl) ?_ (by assumption) ?_); rotate_left; (focus (intro w hSw; (try dsimp only at hSw); go_simp; (try with_reducible rfl); done)); (try simp only [Act.put, List.setIfInBounds_toArray, List.set_cons_zero, List.set_cons_succ])
      (refine takeH (i := 22) (v := ?_) (by decide +kernel) (by decide +kernel) (by kernel_rfl) (by rfl) (by exact fun _ _ _ h => h) (by rfl) ?_ (by assumption) ?_); rotate_left; (focus (intro w hSw; (try dsimp only at hSw); go_simp; (try with_reducible rfl); done)); (try simp only [Act.put, List.setIfInBounds_toArray, List.set_cons_zero, List.set_cons_succ])
      (refine takeH (i := 24) (v := ?_) (by decide +kernel) (by decide +kernel) (by kernel_rfl) (by rfl) (by exact fun _ _ _ h => h) (by rfl) ?_ (by assumption) ?_); rotate_left; (focus (intro w hSw; (try dsimp only at hSw); go_simp; (try with_reducible rfl); done)); (try simp only [Act.put, List.setIfInBounds_toArray, List.set_cons_zero, List.set_cons_succ])
      (refine takeH (i := 25) (v := ?_) (by decide +kernel) (by decide +kernel) (by kernel_rfl) (by rfl) (by exact fun _ _ _ h => h) (by rfl) ?_ (by assumption) ?_); rotate_left; (focus (intro w hSw; (try dsimp only at hSw); go_simp; (try with_reducible rfl); done)); (try simp only [Act.put, List.setIfInBounds_toArray, List.set_cons_zero, List.set_cons_succ])
      refine nextH (i := 23) (by decide +kernel) (by rfl) (by rfl) (fun K hK => ?_)
      (go_simp; go_at_call 58; (refine (M5.out _ ⟨(F8.at 10 rfl).1, (F8.at 9 rfl).1⟩).mono ?_); (rintro e w9 ⟨rfl, hb9⟩); (have hc9 := (bcell hb9).1); (have S9 := Lib.hid (And.intro ((hc9 _ _ (Nat.lt_of_lt_of_le zr y8)).trans S8.out.1) (And.intro ((hc9 _ _ (Nat.lt_of_lt_of_le zr y8)).trans S8.out.2.1) (And.intro ((hc9 _ _ (Nat.lt_of_lt_of_le zr y8)).trans S8.out.2.2.1) (And.intro ((hc9 _ _ (Nat.lt_of_lt_of_le zr y8)).trans S8.out.2.2.2.1) (And.intro ((hc9 _ _ (Nat.lt_of_lt_of_le zr y8)).trans S8.out.2.2.2.2.1) (And.intro ((hc9 _ _ (Nat.lt_of_lt_of_le zr y8)).trans S8.out.2.2.2.2.2.1) (And.intro ((hc9 _ _ (Nat.lt_of_lt_of_le zr y8)).trans S8.out.2.2.2.2.2.2.1) (And.intro ((hc9 _ _ (Nat.lt_of_lt_of_le zr y8)).trans S8.out.2.2.2.2.2.2.2.1) (And.intro ((hc9 _ _ (Nat.lt_of_lt_of_le zr y8)).trans S8.out.2.2.2.2.2.2.2.2.1) (And.intro ((hc9 _ _ (Nat.lt_of_lt_of_le zp y8)).trans S8.out.2.2.2.2.2.2.2.2.2.1) (And.intro ((hc9 _ _ (Nat.lt_of_lt_of_le zp y8)).trans S8.out.2.2.2.2.2.2.2.2.2.2.1) (And.intro ((hc9 _ _ (Nat.lt_of_lt_of_le zp y8)).trans S8.out.2.2.2.2.2.2.2.2.2.2.2.1) (And.intro ((hc9 _ _ (Nat.lt_of_lt_of_le zl y8)).trans S8.out.2.2.2.2.2.2.2.2.2.2.2.2.1) (And.intro ((hc9 _ _ (Nat.lt_of_lt_of_le zl y8)).trans S8.out.2.2.2.2.2.2.2.2.2.2.2.2.2.1) (And.intro ((hc9 _ _ (Nat.lt_of_lt_of_le zl y8)).trans S8.out.2.2.2.2.2.2.2.2.2.2.2.2.2.2.1) ((hc9 _ _ (Nat.lt_of_lt_of_le zl y8)).trans S8.out.2.2.2.2.2.2.2.2.2.2.2.2.2.2.2))))))))))))))))); (have F9 := F8.step hb9); clear hb9 hc9)
      refine hK.out _ _ ?_ (fun hHeld' => ?_)
      (focus ((try dsimp only); (first | done | ((first | (with_reducible exact S9.out) | (with_reducible exact S8.out) | (with_reducible exact S7.out) | (with_reducible exact S6.out)); done))))
      clear hK K hHeld
      have hHeld := hHeld'
      clear hHeld'
      (try simp only [Act.put, List.setIfInBounds_toArray, List.set_cons_zero, List.set_cons_succ])
      (refine takeH (i := 26) (v := ?_) (by decide +kernel) (by decide +kernel) (by kernel_rfl) (by rfl) (by exact fun _ _ _ h => h) (by rfl) ?_ (by assumption) ?_); rotate_left; (focus (intro w hSw; (try dsimp only at hSw); go_simp; (try with_reducible rfl); done)); (try simp only [Act.put, List.setIfInBounds_toArray, List.set_cons_zero, List.set_cons_succ])
      (refine takeH (i := 27) (v := ?_) (by decide +kernel) (by decide +kernel) (by kernel_rfl) (by rfl) (by exact fun _ _ _ h => h) (by rfl) ?_ (by assumption) ?_); rotate_left; (focus (intro w hSw; (try dsimp only at hSw); go_simp; (try with_reducible rfl); done)); (try simp only [Act.put, List.setIfInBounds_toArray, List.set_cons_zero, List.set_cons_succ])
      refine wpAnyH_done (by decide +kernel) ?_ _
      clear hHeld S6 S7 S8 S9 F7 F8 y7 y8 c0 c1 c2 c3 c4 c5 c6 c7 c8 d0 d1 d2 l0 l1 l2 l3 zr zp zl
      obtain ⟨c0, c1, c2, c3, c4, c5, c6, c7, c8⟩ := R.boxc (F9.at 8 rfl)
      rw [HREL.out] at c4
      have zr : w2.heap.size < w9.heap.size := F9.le 8 rfl
      clear F6
      go_wp2
      go_ret
      exact ⟨rfl, HW.out _ F9.below⟩
    · subst hz00
      rw [decide_eq_false (by decide)] at M4
      have M5 := Lib.hid M4
      clear M4
      obtain ⟨zp', zs, zl', zm⟩ := z1
      obtain ⟨hsu, hook, hla, hall, hown, hoth, hlast, hstt, hpt, htl⟩ := hso
      dsimp only at hsu hook hla hall hown hoth hlast hstt hpt htl hsame F6
      obtain ⟨bz1, bz2, bz3, bz4, _⟩ := ok_bds hook
      obtain ⟨zu, zv, hzs⟩ : ∃ u v, zs = [u, v] := by
        match zs, bz4 with
        | [u, v], _ => exact ⟨u, v, rfl⟩
      subst hzs
      have hown2 : zv - pv = cntS tl := hown
      have hoth2 : pu = zu := hoth.symm
      clear hown hoth
      subst hoth2
      have C4 := fun W h => SownSeeds_c ⟨zp', [pu, zv], zl', zm⟩ D W h bz1 bz2 bz3 (by simp) (by simp)
      have C5 := fun W h => sValidSown_c r ⟨zp', [pu, zv], zl', zm⟩ D 1 W h hook hla (by omega) hstt hpt
      dsimp only at C4 C5
      rw [hsu, ← hT] at C4
      have C4 := Lib.hid C4
      have C5 := Lib.hid C5
      have hzb : (0 ≤ zv ∧ zv ≤ 2000) ∧ (0 ≤ pv ∧ pv ≤ 2000) := ⟨bz2 _ (by simp), HB3.out _ (by simp)⟩
      obtain ⟨kk, hkk⟩ : ∃ kk, tl.length = kk + 1 := by
        cases tl with
        | nil => simp at hlast
        | cons x l => exact ⟨l.length, by simp⟩
      have hkl : kk < tl.length := by omega
      have htk : tl[kk] = zl' := by
        rw [List.getLast?_eq_getElem?, hkk] at hlast
        simpa [hkl] using hlast
      have HTK := Lib.hid htk
      have HOWN := Lib.hid hown2
      have HALL := Lib.hid hall
      have HKK := Lib.hid hkk
      have HT2 := Lib.hid hT
      clear hsu hook hla hstt hpt hlast bz1 bz2 bz3 bz4 hall hkk hT htk hown2
      go_upto_region 10 with fail
      refine heldH (S := fun W => W.cell? ⟨w2.heap.size, 0, none⟩ = some (.int .i64 r.pits) ∧ W.cell? ⟨w2.heap.size, 1, none⟩ = some (.int .i64 r.seeds) ∧ W.cell? ⟨w2.heap.size, 2, none⟩ = some (.bool r.stores) ∧ W.cell? ⟨w2.heap.size, 3, none⟩ = some (.bool r.skip) ∧ W.cell? ⟨w2.heap.size, 4, none⟩ = some (.bool r.relay) ∧ W.cell? ⟨w2.heap.size, 5, none⟩ = some (.bool r.feed) ∧ W.cell? ⟨w2.heap.size, 6, none⟩ = some (.bool r.again) ∧ W.cell? ⟨w2.heap.size, 7, none⟩ = some (.int .i64 r.capture) ∧ W.cell? ⟨w2.heap.size, 8, none⟩ = some (.int .i64 r.slam) ∧ W.cell? ⟨w2.heap.size + 1, 0, none⟩ = some (.slice (some ⟨bp, op, none⟩) pp.length AC) ∧ W.cell? ⟨w2.heap.size + 1, 1, none⟩ = some (.slice SA 2 SC) ∧ W.cell? ⟨w2.heap.size + 1, 2, none⟩ = some (.int .i64 1) ∧ W.cell? ⟨w4.heap.size, 0, none⟩ = some (.slice B.pa lp.length B.pc) ∧ W.cell? ⟨w4.heap.size, 1, none⟩ = some (.slice B.sa ls.length B.sc) ∧ W.cell? ⟨w4.heap.size, 2, none⟩ = some (.int .i64 ll) ∧ W.cell? ⟨w4.heap.size, 3, none⟩ = some (.int .i64 1)) (n := 28) (listed := #[false, false, false, false, false, false, false, false, false, false, false, false, false, false, false, false, false, false, false, false, false, false, false, false, false, false, false, false]) (by kernel_rfl) (by rfl) (by rfl) ?_ (fun hHeld => ?_)
      (focus ((try dsimp only); (first | done | ((first | (with_reducible exact S9.out) | (with_reducible exact S8.out) | (with_reducible exact S7.out) | (with_reducible exact S6.out)); done))))
      (refine takeH (i := 0) (v := ?_) (by decide +kernel) (by decide +kernel) (by kernel_rfl) (by rfl) (by exact fun _ _ _ h => h) (by rfl) ?_ (by assumption) ?_); rotate_left; (focus (intro w hSw; (try dsimp only at hSw); go_simp; (try with_reducible rfl); done)); (try simp only [Act.put, List.setIfInBounds_toArray, List.set_cons_zero, List.set_cons_succ])
      (refine takeH (i := 1) (v := ?_) (by decide +kernel) (by decide +kernel) (by kernel_rfl) (by rfl) (by exact fun _ _ _ h => h) (by rfl) ?_ (by assumption) ?_); rotate_left; (focus (intro w hSw; (try dsimp only at hSw); go_simp; (try with_reducible rfl); done)); (try simp only [Act.put, List.setIfInBounds_toArray, List.set_cons_zero, List.set_cons_succ])
      (refine takeH (i := 2) (v := ?_) (by decide +kernel) (by decide +kernel) (by kernel_rfl) (by rfl) (by exact fun _ _ _ h => h) (by rfl) ?_ (by assumption) ?_); rotate_left; (focus (intro w hSw; (try dsimp only at hSw); go_simp; (try with_reducible rfl); done)); (try simp only [Act.put, List.setIfInBounds_toArray, List.set_cons_zero, List.set_cons_succ])
      (refine takeH (i := 3) (v := ?_) (by decide +kernel) (by decide +kernel) (by kernel_rfl) (by rfl) (by exact fun _ _ _ h => h) (by rfl) ?_ (by assumption) ?_); rotate_left; (focus (intro w hSw; (try dsimp only at hSw); go_simp; (try with_reducible rfl); done)); (try simp only [Act.put, List.setIfInBounds_toArray, List.set_cons_zero, List.set_cons_succ])
      (refine takeH (i := 5) (v := ?_) (by decide +kernel) (by decide +kernel) (by kernel_rfl) (by rfl) (by exact fun _ _ _ h => h) (by rfl) ?_ (by assumption) ?_); rotate_left; (focus (intro w hSw; (try dsimp only at hSw); go_simp; (try with_reducible rfl); done)); (try simp only [Act.put, List.setIfInBounds_toArray, List.set_cons_zero, List.set_cons_succ])
      refine nextH (i := 4) (by decide +kernel) (by rfl) (by rfl) (fun K hK => ?_)
      (go_simp; go_at_call 56; (refine (C1.out _ ⟨(F6.drew.at 6 rfl).1, (F6.drew.at 5 rfl).1⟩).mono ?_); (rintro e w7 ⟨rfl, hb7⟩); (have hc7 := (bcell hb7).1); (have S7 := Lib.hid (And.intro ((hc7 _ _ zr).trans S6.out.1) (And.intro ((hc7 _ _ zr).trans S6.out.2.1) (And.intro ((hc7 _ _ zr).trans S6.out.2.2.1) (And.intro ((hc7 _ _ zr).trans S6.out.2.2.2.1) (And.intro ((hc7 _ _ zr).trans S6.out.2.2.2.2.1) (And.intro ((hc7 _ _ zr).trans S6.out.2.2.2.2.2.1) (And.intro ((hc7 _ _ zr).trans S6.out.2.2.2.2.2.2.1) (And.intro ((hc7 _ _ zr).trans S6.out.2.2.2.2.2.2.2.1) (And.intro ((hc7 _ _ zr).trans S6.out.2.2.2.2.2.2.2.2.1) (And.intro ((hc7 _ _ zp).trans S6.out.2.2.2.2.2.2.2.2.2.1) (And.intro ((hc7 _ _ zp).trans S6.out.2.2.2.2.2.2.2.2.2.2.1) (And.intro ((hc7 _ _ zp).trans S6.out.2.2.2.2.2.2.2.2.2.2.2.1) (And.intro ((hc7 _ _ zl).trans S6.out.2.2.2.2.2.2.2.2.2.2.2.2.1) (And.intro ((hc7 _ _ zl).trans S6.out.2.2.2.2.2.2.2.2.2.2.2.2.2.1) (And.intro ((hc7 _ _ zl).trans S6.out.2.2.2.2.2.2.2.2.2.2.2.2.2.2.1) ((hc7 _ _ zl).trans S6.out.2.2.2.2.2.2.2.2.2.2.2.2.2.2.2))))))))))))))))); (have y7 : w6.heap.size ≤ w7.heap.size := hb7.size); (have F7 := F6.drew.step hb7); clear hb7 hc7)
      refine hK.out _ _ ?_ (fun hHeld' => ?_)
      (focus ((try dsimp only); (first | done | ((first | (with_reducible exact S9.out) | (with_reducible exact S8.out) | (with_reducible exact S7.out) | (with_reducible exact S6.out)); done))))
      clear hK K hHeld
      have hHeld := hHeld'
      clear hHeld'
      (try simp only [Act.put, List.setIfInBounds_toArray, List.set_cons_zero, List.set_cons_succ])
      refine nextH (i := 6) (by decide +kernel) (by rfl) (by rfl) (fun K hK => ?_)
      (go_simp; go_at_call 57; (refine (C2.out _ ⟨(F7.at 10 rfl).1, (F7.at 9 rfl).1⟩).mono ?_); (rintro e w8 ⟨rfl, hb8⟩); (have hc8 := (bcell hb8).1); (have S8 := Lib.hid (And.intro ((hc8 _ _ (Nat.lt_of_lt_of_le zr y7)).trans S7.out.1) (And.intro ((hc8 _ _ (Nat.lt_of_lt_of_le zr y7)).trans S7.out.2.1) (And.intro ((hc8 _ _ (Nat.lt_of_lt_of_le zr y7)).trans S7.out.2.2.1) (And.intro ((hc8 _ _ (Nat.lt_of_lt_of_le zr y7)).trans S7.out.2.2.2.1) (And.intro ((hc8 _ _ (Nat.lt_of_lt_of_le zr y7)).trans S7.out.2.2.2.2.1) (And.intro ((hc8 _ _ (Nat.lt_of_lt_of_le zr y7)).trans S7.out.2.2.2.2.2.1) (And.intro ((hc8 _ _ (Nat.lt_of_lt_of_le zr y7)).trans S7.out.2.2.2.2.2.2.1) (And.intro ((hc8 _ _ (Nat.lt_of_lt_of_le zr y7)).trans S7.out.2.2.2.2.2.2.2.1) (And.intro ((hc8 _ _ (Nat.lt_of_lt_of_le zr y7)).trans S7.out.2.2.2.2.2.2.2.2.1) (And.intro ((hc8 _ _ (Nat.lt_of_lt_of_le zp y7)).trans S7.out.2.2.2.2.2.2.2.2.2.1) (And.intro ((hc8 _ _ (Nat.lt_of_lt_of_le zp y7)).trans S7.out.2.2.2.2.2.2.2.2.2.2.1) (And.intro ((hc8 _ _ (Nat.lt_of_lt_of_le zp y7)).trans S7.out.2.2.2.2.2.2.2.2.2.2.2.1) (And.intro ((hc8 _ _ (Nat.lt_of_lt_of_le zl y7)).trans S7.out.2.2.2.2.2.2.2.2.2.2.2.2.1) (And.intro ((hc8 _ _ (Nat.lt_of_lt_of_le zl y7)).trans S7.out.2.2.2.2.2.2.2.2.2.2.2.2.2.1) (And.intro ((hc8 _ _ (Nat.lt_of_lt_of_le zl y7)).trans S7.out.2.2.2.2.2.2.2.2.2.2.2.2.2.2.1) ((hc8 _ _ (Nat.lt_of_lt_of_le zl y7)).trans S7.out.2.2.2.2.2.2.2.2.2.2.2.2.2.2.2))))))))))))))))); (have y8 : w6.heap.size ≤ w8.heap.size := Nat.le_trans y7 hb8.size); (have F8 := F7.step hb8); clear hb8 hc8)
      refine hK.out _ _ ?_ (fun hHeld' => ?_)
      (focus ((try dsimp only); (first | done | ((first | (with_reducible exact S9.out) | (with_reducible exact S8.out) | (with_reducible exact S7.out) | (with_reducible exact S6.out)); done))))
      clear hK K hHeld
      have hHeld := hHeld'
      clear hHeld'
      (try simp only [Act.put, List.setIfInBounds_toArray, List.set_cons_zero, List.set_cons_succ])
      (refine takeH (i := 7) (v := ?_) (by decide +kernel) (by decide +kernel) (by kernel_rfl) (by rfl) (by exact fun _ _ _ h => h) (by rfl) ?_ (by assumption) ?_); rotate_left; (focus (intro w hSw; (try dsimp only at hSw); go_simp; (try with_reducible rfl); done)); (try simp only [Act.put, List.setIfInBounds_toArray, List.set_cons_zero, List.set_cons_succ])
      (refine takeH (i := 8) (v := ?_) (by decide +kernel) (by decide +kernel) (by kernel_rfl) (by rfl) (by exact fun _ _ _ h => h) (by rfl) ?_ (by assumption) ?_); rotate_left; (focus (intro w hSw; (try dsimp only at hSw); go_simp; (try with_reducible rfl); done)); (try simp only [Act.put, List.setIfInBounds_toArray, List.set_cons_zero, List.set_cons_succ])
      (refine takeH (i := 9) (v := ?_) (by decide +kernel) (by decide +kernel) (by kernel_rfl) (by rfl) (by exact fun _ _ _ h => h) (by rfl) ?_ (by assumption) ?_); rotate_left; (focus (intro w hSw; (try dsimp only at hSw); go_simp; (try with_reducible rfl); done)); (try simp only [Act.put, List.setIfInBounds_toArray, List.set_cons_zero, List.set_cons_succ])
      (refine takeH (i := 10) (v := ?_) (by decide +kernel) (by decide +kernel) (by kernel_rfl) (by rfl) (by exact fun _ _ _ h => h) (by rfl) ?_ (by assumption) ?_); rotate_left; (focus (intro w hSw; (try dsimp only at hSw); go_simp; (try with_reducible rfl); done)); (try simp only [Act.put, List.setIfInBounds_toArray, List.set_cons_zero, List.set_cons_succ])
      (refine takeH (i := 11) (v := ?_) (by decide +kernel) (by decide +kernel) (by kernel_rfl) (by rfl) (by exact fun _ _ _ h => h) (by rfl) ?_ (by assumption) ?_); rotate_left; (focus (intro w hSw; (try dsimp only at hSw); go_simp; (try with_reducible rfl); done)); (try simp only [Act.put, List.setIfInBounds_toArray, List.set_cons_zero, List.set_cons_succ])
      (refine takeH (i := 12) (v := ?_) (by decide +kernel) (by decide +kernel) (by kernel_rfl) (by rfl) (by exact fun _ _ _ h => h) (by rfl) ?_ (by assumption) ?_); rotate_left; (focus (intro w hSw; (try dsimp only at hSw); go_simp; (try with_reducible rfl); done)); (try simp only [Act.put, List.setIfInBounds_toArray, List.set_cons_zero, List.set_cons_succ])
      (refine takeH (i := 13) (v := ?_) (by decide +kernel) (by decide +kernel) (by kernel_rfl) (by rfl) (by exact fun _ _ _ h => h) (by rfl) ?_ (by assumption) ?_); rotate_left; (focus (intro w hSw; (try dsimp only at hSw); go_simp; (try with_reducible rfl); done)); (try simp only [Act.put, List.setIfInBounds_toArray, List.set_cons_zero, List.set_cons_succ])
      (refine takeH (i := 14) (v := ?_) (by decide +kernel) (by decide +kernel) (by kernel_rfl) (by rfl) (by exact fun _ _ _ h => h) (by rfl) ?_ (by assumption) ?_); rotate_left; (focus (intro w hSw; (try dsimp only at hSw); go_simp; (try with_reducible rfl); done)); (try simp only [Act.put, List.setIfInBounds_toArray, List.set_cons_zero, List.set_cons_succ])
      (refine takeH (i := 15) (v := ?_) (by decide +kernel) (by decide +kernel) (by kernel_rfl) (by rfl) (by exact fun _ _ _ h => h) (by rfl) ?_ (by assumption) ?_); rotate_left; (focus (intro w hSw; (try dsimp only at hSw); go_simp; (try with_reducible rfl); done)); (try simp only [Act.put, List.setIfInBounds_toArray, List.set_cons_zero, List.set_cons_succ])
      (refine takeH (i := 16) (v := ?_) (by decide +kernel) (by decide +kernel) (by kernel_rfl) (by rfl) (by exact fun _ _ _ h => h) (by rfl) ?_ (by assumption) ?_); rotate_left; (focus (intro w hSw; (try dsimp only at hSw); go_simp; (try with_reducible rfl); done)); (try simp only [Act.put, List.setIfInBounds_toArray, List.set_cons_zero, List.set_cons_succ])
      (refine takeH (i := 17) (v := ?_) (by decide +kernel) (by decide +kernel) (by kernel_rfl) (by rfl) (by exact fun _ _ _ h => h) (by rfl) ?_ (by assumption) ?_); rotate_left; (focus (intro w hSw; (try dsimp only at hSw); go_simp; (try with_reducible rfl); done)); (try simp only [Act.put, List.setIfInBounds_toArray, List.set_cons_zero, List.set_cons_succ])
      (refine takeH (i := 18) (v := ?_) (by decide +kernel) (by decide +kernel) (by kernel_rfl) (by rfl) (by exact fun _ _ _ h => h) (by rfl) ?_ (by assumption) ?_); rotate_left; (focus (intro w hSw; (try dsimp only at hSw); go_simp; (try with_reducible rfl); done)); (try simp only [Act.put, List.setIfInBounds_toArray, List.set_cons_zero, List.set_cons_succ])
      (refine takeH (i := 19) (v := ?_) (by decide +kernel) (by decide +kernel) (by kernel_rfl) (by rfl) (by exact fun _ _ _ h => h) (by rfl) ?_ (by assumption) ?_); rotate_left; (focus (intro w hSw; (try dsimp only at hSw); go_simp; (try with_reducible rfl); done)); (try simp only [Act.put, List.setIfInBounds_toArray, List.set_cons_zero, List.set_cons_succ])
      (refine takeH (i := 20) (v := ?_) (by decide +kernel) (by decide +kernel) (by kernel_rfl) (by rfl) (by exact fun _ _ _ h => h) (by rfl) ?_ (by assumption) ?_); rotate_left; (focus (intro w hSw; (try dsimp only at hSw); go_simp; (try with_reducible rfl); done)); (try simp only [Act.put, List.setIfInBounds_toArray, List.set_cons_zero, List.set_cons_succ])
      (refine takeH (i := 21) (v := ?_) (by decide +kernel) (by decide +kernel) (by kernel_rfl) (by rfl) (by exact fun _ _ _ h => h) (by rfl) ?_ (by assumption) ?_); rotate_left; (focus (intro w hSw; (try dsimp only at hSw); go_simp; (try with_reducible rfl); done)); (try simp only [Act.put, List.setIfInBounds_toArray, List.set_cons_zero, List.set_cons_succ])
      (refine takeH (i := 22) (v := ?_) (by decide +kernel) (by decide +kernel) (by kernel_rfl) (by rfl) (by exact fun _ _ _ h => h) (by rfl) ?_ (by assumption) ?_); rotate_left; (focus (intro w hSw; (try dsimp only at hSw); go_simp; (try with_reducible rfl); done)); (try simp only [Act.put, List.setIfInBounds_toArray, List.set_cons_zero, List.set_cons_succ])
      (refine takeH (i := 24) (v := ?_) (by decide +kernel) (by decide +kernel) (by kernel_rfl) (by rfl) (by exact fun _ _ _ h => h) (by rfl) ?_ (by assumption) ?_); rotate_left; (focus (intro w hSw; (try dsimp only at hSw); go_simp; (try with_reducible rfl); done)); (try simp only [Act.put, List.setIfInBounds_toArray, List.set_cons_zero, List.set_cons_succ])
      (refine takeH (i := 25) (v := ?_) (by decide +kernel) (by decide +kernel) (by kernel_rfl) (by rfl) (by exact fun _ _ _ h => h) (by rfl) ?_ (by assumption) ?_); rotate_left; (focus (intro w hSw; (try dsimp only at hSw); go_simp; (try with_reducible rfl); done)); (try simp only [Act.put, List.setIfInBounds_toArray, List.set_cons_zero, List.set_cons_succ])
      refine nextH (i := 23) (by decide +kernel) (by rfl) (by rfl) (fun K hK => ?_)
      (go_simp; go_at_call 58; (refine (M5.out _ ⟨(F8.at 10 rfl).1, (F8.at 9 rfl).1⟩).mono ?_); (rintro e w9 ⟨rfl, hb9⟩); (have hc9 := (bcell hb9).1); (have S9 := Lib.hid (And.intro ((hc9 _ _ (Nat.lt_of_lt_of_le zr y8)).trans S8.out.1) (And.intro ((hc9 _ _ (Nat.lt_of_lt_of_le zr y8)).trans S8.out.2.1) (And.intro ((hc9 _ _ (Nat.lt_of_lt_of_le zr y8)).trans S8.out.2.2.1) (And.intro ((hc9 _ _ (Nat.lt_of_lt_of_le zr y8)).trans S8.out.2.2.2.1) (And.intro ((hc9 _ _ (Nat.lt_of_lt_of_le zr y8)).trans S8.out.2.2.2.2.1) (And.intro ((hc9 _ _ (Nat.lt_of_lt_of_le zr y8)).trans S8.out.2.2.2.2.2.1) (And.intro ((hc9 _ _ (Nat.lt_of_lt_of_le zr y8)).trans S8.out.2.2.2.2.2.2.1) (And.intro ((hc9 _ _ (Nat.lt_of_lt_of_le zr y8)).trans S8.out.2.2.2.2.2.2.2.1) (And.intro ((hc9 _ _ (Nat.lt_of_lt_of_le zr y8)).trans S8.out.2.2.2.2.2.2.2.2.1) (And.intro ((hc9 _ _ (Nat.lt_of_lt_of_le zp y8)).trans S8.out.2.2.2.2.2.2.2.2.2.1) (And.intro ((hc9 _ _ (Nat.lt_of_lt_of_le zp y8)).trans S8.out.2.2.2.2.2.2.2.2.2.2.1) (And.intro ((hc9 _ _ (Nat.lt_of_lt_of_le zp y8)).trans S8.out.2.2.2.2.2.2.2.2.2.2.2.1) (And.intro ((hc9 _ _ (Nat.lt_of_lt_of_le zl y8)).trans S8.out.2.2.2.2.2.2.2.2.2.2.2.2.1) (And.intro ((hc9 _ _ (Nat.lt_of_lt_of_le zl y8)).trans S8.out.2.2.2.2.2.2.2.2.2.2.2.2.2.1) (And.intro ((hc9 _ _ (Nat.lt_of_lt_of_le zl y8)).trans S8.out.2.2.2.2.2.2.2.2.2.2.2.2.2.2.1) ((hc9 _ _ (Nat.lt_of_lt_of_le zl y8)).trans S8.out.2.2.2.2.2.2.2.2.2.2.2.2.2.2.2))))))))))))))))); (have F9 := F8.step hb9); clear hb9 hc9)
      refine hK.out _ _ ?_ (fun hHeld' => ?_)
      (focus ((try dsimp only); (first | done | ((first | (with_reducible exact S9.out) | (with_reducible exact S8.out) | (with_reducible exact S7.out) | (with_reducible exact S6.out)); done))))
      clear hK K hHeld
      have hHeld := hHeld'
      clear hHeld'
      (try simp only [Act.put, List.setIfInBounds_toArray, List.set_cons_zero, List.set_cons_succ])
      (refine takeH (i := 26) (v := ?_) (by decide +kernel) (by decide +kernel) (by kernel_rfl) (by rfl) (by exact fun _ _ _ h => h) (by rfl) ?_ (by assumption) ?_); rotate_left; (focus (intro w hSw; (try dsimp only at hSw); go_simp; (try with_reducible rfl); done)); (try simp only [Act.put, List.setIfInBounds_toArray, List.set_cons_zero, List.set_cons_succ])
      (refine takeH (i := 27) (v := ?_) (by decide +kernel) (by decide +kernel) (by kernel_rfl) (by rfl) (by exact fun _ _ _ h => h) (by rfl) ?_ (by assumption) ?_); rotate_left; (focus (intro w hSw; (try dsimp only at hSw); go_simp; (try with_reducible rfl); done)); (try simp only [Act.put, List.setIfInBounds_toArray, List.set_cons_zero, List.set_cons_succ])
      refine wpAnyH_done (by decide +kernel) ?_ _
      clear hHeld S6 S7 S8 S9 F7 F8 y7 y8 c0 c1 c2 c3 c4 c5 c6 c7 c8 d0 d1 d2 l0 l1 l2 l3 zr zp zl
      obtain ⟨bt, ot, hta, hbt, kt⟩ := Ints.at (F9.at 0 rfl).1 hkl
      rw [HTK.out] at kt
      have HROW := Lib.hid (fun W (hW : Below w9.heap.size w9 W) => ((F9.at 0 rfl).1 : Ints w9 ta tl).below hW (Nat.le_refl _))
      subst hta
      have zr : w2.heap.size < w9.heap.size := F9.le 8 rfl
      have zp : w2.heap.size + 1 < w9.heap.size := by have := F9.le 7 rfl; simp at this; omega
      have zl : w4.heap.size < w9.heap.size := F9.le 4 rfl
      have zz : w5.heap.size < w9.heap.size := F9.le 1 rfl
      rcases Bool.eq_false_or_eq_true r.relay with hrl | hrl
      · have HRL := Lib.hid hrl
        clear hrl
        obtain ⟨c0, c1, c2, c3, c4, c5, c6, c7, c8⟩ := R.boxc (F9.at 8 rfl)
        obtain ⟨d0, d1, d2⟩ := P.boxc (F9.at 7 rfl)
        simp only [World.size_alloc] at d0 d1 d2
        obtain ⟨l0, l1, l2, l3⟩ := (⟨F9.at 4 rfl 0 _ rfl, F9.at 4 rfl 1 _ rfl, F9.at 4 rfl 2 _ rfl, F9.at 4 rfl 3 _ rfl⟩ : _ ∧ _ ∧ _ ∧ _)
        obtain ⟨z0, z1, z2, z3⟩ := (⟨F9.at 1 rfl 0 _ rfl, F9.at 1 rfl 1 _ rfl, F9.at 1 rfl 2 _ rfl, F9.at 1 rfl 3 _ rfl⟩ : _ ∧ _ ∧ _ ∧ _)
        have S9 : Hid (w9.drew.cell? ⟨w2.heap.size, 0, none⟩ = some (.int .i64 r.pits) ∧ w9.drew.cell? ⟨w2.heap.size, 1, none⟩ = some (.int .i64 r.seeds) ∧ w9.drew.cell? ⟨w2.heap.size, 2, none⟩ = some (.bool r.stores) ∧ w9.drew.cell? ⟨w2.heap.size, 3, none⟩ = some (.bool r.skip) ∧ w9.drew.cell? ⟨w2.heap.size, 4, none⟩ = some (.bool r.relay) ∧ w9.drew.cell? ⟨w2.heap.size, 5, none⟩ = some (.bool r.feed) ∧ w9.drew.cell? ⟨w2.heap.size, 6, none⟩ = some (.bool r.again) ∧ w9.drew.cell? ⟨w2.heap.size, 7, none⟩ = some (.int .i64 r.capture) ∧ w9.drew.cell? ⟨w2.heap.size, 8, none⟩ = some (.int .i64 r.slam) ∧ w9.drew.cell? ⟨w2.heap.size + 1, 0, none⟩ = some (.slice (some ⟨bp, op, none⟩) pp.length AC) ∧ w9.drew.cell? ⟨w2.heap.size + 1, 1, none⟩ = some (.slice SA 2 SC) ∧ w9.drew.cell? ⟨w2.heap.size + 1, 2, none⟩ = some (.int .i64 1) ∧ w9.drew.cell? ⟨w4.heap.size, 0, none⟩ = some (.slice B.pa lp.length B.pc) ∧ w9.drew.cell? ⟨w4.heap.size, 1, none⟩ = some (.slice B.sa ls.length B.sc) ∧ w9.drew.cell? ⟨w4.heap.size, 2, none⟩ = some (.int .i64 ll) ∧ w9.drew.cell? ⟨w4.heap.size, 3, none⟩ = some (.int .i64 1) ∧ w9.drew.cell? ⟨w5.heap.size, 0, none⟩ = some (.slice D.pa zp'.length D.pc) ∧ w9.drew.cell? ⟨w5.heap.size, 1, none⟩ = some (.slice D.sa 2 D.sc) ∧ w9.drew.cell? ⟨w5.heap.size, 2, none⟩ = some (.int .i64 zl') ∧ w9.drew.cell? ⟨w5.heap.size, 3, none⟩ = some (.int .i64 zm) ∧ w9.drew.cell? ⟨bt, ot + kk, none⟩ = some (.int .i64 zl')) := (And.intro (c0) (And.intro (c1) (And.intro (c2) (And.intro (c3) (And.intro (c4) (And.intro (c5) (And.intro (c6) (And.intro (c7) (And.intro (c8) (And.intro (d0) (And.intro (d1) (And.intro (d2) (And.intro (l0) (And.intro (l1) (And.intro (l2) (And.intro (l3) (And.intro (z0) (And.intro (z1) (And.intro (z2) (And.intro (z3) (kt)))))))))))))))))))))
        have hl0 : ((tl.length : Int) == 0) = false := by have : ¬ (tl.length : Int) = 0 := by omega
                                                          simpa using this
        have hkki : (kk : Int) < (tl.length : Int) := by omega
        have wrk : IntKind.i64.wrap ((tl.length : Int) - 1) = (kk : Int) := (IntWalk.i64_in _ (by omega)).trans (by have := HKK.out; omega)
        go_upto_region 14 with fail
        refine heldH (S := fun W => W.cell? ⟨w2.heap.size, 0, none⟩ = some (.int .i64 r.pits) ∧ W.cell? ⟨w2.heap.size, 1, none⟩ = some (.int .i64 r.seeds) ∧ W.cell? ⟨w2.heap.size, 2, none⟩ = some (.bool r.stores) ∧ W.cell? ⟨w2.heap.size, 3, none⟩ = some (.bool r.skip) ∧ W.cell? ⟨w2.heap.size, 4, none⟩ = some (.bool r.relay) ∧ W.cell? ⟨w2.heap.size, 5, none⟩ = some (.bool r.feed) ∧ W.cell? ⟨w2.heap.size, 6, none⟩ = some (.bool r.again) ∧ W.cell? ⟨w2.heap.size, 7, none⟩ = some (.int .i64 r.capture) ∧ W.cell? ⟨w2.heap.size, 8, none⟩ = some (.int .i64 r.slam) ∧ W.cell? ⟨w2.heap.size + 1, 0, none⟩ = some (.slice (some ⟨bp, op, none⟩) pp.length AC) ∧ W.cell? ⟨w2.heap.size + 1, 1, none⟩ = some (.slice SA 2 SC) ∧ W.cell? ⟨w2.heap.size + 1, 2, none⟩ = some (.int .i64 1) ∧ W.cell? ⟨w4.heap.size, 0, none⟩ = some (.slice B.pa lp.length B.pc) ∧ W.cell? ⟨w4.heap.size, 1, none⟩ = some (.slice B.sa ls.length B.sc) ∧ W.cell? ⟨w4.heap.size, 2, none⟩ = some (.int .i64 ll) ∧ W.cell? ⟨w4.heap.size, 3, none⟩ = some (.int .i64 1) ∧ W.cell? ⟨w5.heap.size, 0, none⟩ = some (.slice D.pa zp'.length D.pc) ∧ W.cell? ⟨w5.heap.size, 1, none⟩ = some (.slice D.sa 2 D.sc) ∧ W.cell? ⟨w5.heap.size, 2, none⟩ = some (.int .i64 zl') ∧ W.cell? ⟨w5.heap.size, 3, none⟩ = some (.int .i64 zm) ∧ W.cell? ⟨bt, ot + kk, none⟩ = some (.int .i64 zl')) (n := 40) (listed := #[false, false, false, false, false, false, false, false, false, false, false, false, false, false, false, false, false, false, false, false, false, false, false, false, false, false, false, false, false, false, false, false, false, false, false, false, false, false, false, false]) (by kernel_rfl) (by rfl) (by rfl) ?_ (fun hHeld => ?_)
        (focus ((try dsimp only); (first | done | ((first | (with_reducible exact S13.out) | (with_reducible exact S12.out) | (with_reducible exact S11.out) | (with_reducible exact S10.out) | (with_reducible exact S9.out)); done))))
        (refine takeH (i := 0) (v := ?_) (by decide +kernel) (by decide +kernel) (by kernel_rfl) (by rfl) (by exact fun _ _ _ h => h) (by rfl) ?_ (by assumption) ?_); rotate_left; (focus (intro w hSw; (try dsimp only at hSw); go_simp; (try with_reducible rfl); done)); (try simp only [Act.put, List.setIfInBounds_toArray, List.set_cons_zero, List.set_cons_succ])
        (refine takeH (i := 2) (v := ?_) (by decide +kernel) (by decide +kernel) (by kernel_rfl) (by rfl) (by exact fun _ _ _ h => h) (by rfl) ?_ (by assumption) ?_); rotate_left; (focus (intro w hSw; (try dsimp only at hSw); go_simp; (try with_reducible rfl); done)); (try simp only [Act.put, List.setIfInBounds_toArray, List.set_cons_zero, List.set_cons_succ])
        refine nextH (i := 1) (by decide +kernel) (by rfl) (by rfl) (fun K hK => ?_)
        (go_simp; go_at_call 56; (refine (C4.out _ ⟨(F9.drew.at 3 rfl).1, (F9.drew.at 2 rfl).1⟩).mono ?_); (rintro e w10 ⟨rfl, hb10⟩); (have hc10 := (bcell hb10).1); (have S10 := Lib.hid (And.intro ((hc10 _ _ zr).trans S9.out.1) (And.intro ((hc10 _ _ zr).trans S9.out.2.1) (And.intro ((hc10 _ _ zr).trans S9.out.2.2.1) (And.intro ((hc10 _ _ zr).trans S9.out.2.2.2.1) (And.intro ((hc10 _ _ zr).trans S9.out.2.2.2.2.1) (And.intro ((hc10 _ _ zr).trans S9.out.2.2.2.2.2.1) (And.intro ((hc10 _ _ zr).trans S9.out.2.2.2.2.2.2.1) (And.intro ((hc10 _ _ zr).trans S9.out.2.2.2.2.2.2.2.1) (And.intro ((hc10 _ _ zr).trans S9.out.2.2.2.2.2.2.2.2.1) (And.intro ((hc10 _ _ zp).trans S9.out.2.2.2.2.2.2.2.2.2.1) (And.intro ((hc10 _ _ zp).trans S9.out.2.2.2.2.2.2.2.2.2.2.1) (And.intro ((hc10 _ _ zp).trans S9.out.2.2.2.2.2.2.2.2.2.2.2.1) (And.intro ((hc10 _ _ zl).trans S9.out.2.2.2.2.2.2.2.2.2.2.2.2.1) (And.intro ((hc10 _ _ zl).trans S9.out.2.2.2.2.2.2.2.2.2.2.2.2.2.1) (And.intro ((hc10 _ _ zl).trans S9.out.2.2.2.2.2.2.2.2.2.2.2.2.2.2.1) (And.intro ((hc10 _ _ zl).trans S9.out.2.2.2.2.2.2.2.2.2.2.2.2.2.2.2.1) (And.intro ((hc10 _ _ zz).trans S9.out.2.2.2.2.2.2.2.2.2.2.2.2.2.2.2.2.1) (And.intro ((hc10 _ _ zz).trans S9.out.2.2.2.2.2.2.2.2.2.2.2.2.2.2.2.2.2.1) (And.intro ((hc10 _ _ zz).trans S9.out.2.2.2.2.2.2.2.2.2.2.2.2.2.2.2.2.2.2.1) (And.intro ((hc10 _ _ zz).trans S9.out.2.2.2.2.2.2.2.2.2.2.2.2.2.2.2.2.2.2.2.1) ((hc10 _ _ hbt).trans S9.out.2.2.2.2.2.2.2.2.2.2.2.2.2.2.2.2.2.2.2.2)))))))))))))))))))))); (have y10 : w9.heap.size ≤ w10.heap.size := hb10.size); (have F10 := F9.drew.step hb10); (have K10 : Hid (Below w9.heap.size w9 w10) := (Below.refl _ _).drew.trans hb10); clear hb10 hc10)
        refine hK.out _ _ ?_ (fun hHeld' => ?_)
        (focus ((try dsimp only); (first | done | ((first | (with_reducible exact S13.out) | (with_reducible exact S12.out) | (with_reducible exact S11.out) | (with_reducible exact S10.out) | (with_reducible exact S9.out)); done))))
        clear hK K hHeld
        have hHeld := hHeld'
        clear hHeld'
        (try simp only [Act.put, List.setIfInBounds_toArray, List.set_cons_zero, List.set_cons_succ])
        refine nextH (i := 3) (by decide +kernel) (by rfl) (by rfl) (fun K hK => ?_)
        (go_simp; go_at_call 57; (refine (C2.out _ ⟨(F10.at 10 rfl).1, (F10.at 9 rfl).1⟩).mono ?_); (rintro e w11 ⟨rfl, hb11⟩); (have hc11 := (bcell hb11).1); (have S11 := Lib.hid (And.intro ((hc11 _ _ (Nat.lt_of_lt_of_le zr y10)).trans S10.out.1) (And.intro ((hc11 _ _ (Nat.lt_of_lt_of_le zr y10)).trans S10.out.2.1) (And.intro ((hc11 _ _ (Nat.lt_of_lt_of_le zr y10)).trans S10.out.2.2.1) (And.intro ((hc11 _ _ (Nat.lt_of_lt_of_le zr y10)).trans S10.out.2.2.2.1) (And.intro ((hc11 _ _ (Nat.lt_of_lt_of_le zr y10)).trans S10.out.2.2.2.2.1) (And.intro ((hc11 _ _ (Nat.lt_of_lt_of_le zr y10)).trans S10.out.2.2.2.2.2.1) (And.intro ((hc11 _ _ (Nat.lt_of_lt_of_le zr y10)).trans S10.out.2.2.2.2.2.2.1) (And.intro ((hc11 _ _ (Nat.lt_of_lt_of_le zr y10)).trans S10.out.2.2.2.2.2.2.2.1) (And.intro ((hc11 _ _ (Nat.lt_of_lt_of_le zr y10)).trans S10.out.2.2.2.2.2.2.2.2.1) (And.intro ((hc11 _ _ (Nat.lt_of_lt_of_le zp y10)).trans S10.out.2.2.2.2.2.2.2.2.2.1) (And.intro ((hc11 _ _ (Nat.lt_of_lt_of_le zp y10)).trans S10.out.2.2.2.2.2.2.2.2.2.2.1) (And.intro ((hc11 _ _ (Nat.lt_of_lt_of_le zp y10)).trans S10.out.2.2.2.2.2.2.2.2.2.2.2.1) (And.intro ((hc11 _ _ (Nat.lt_of_lt_of_le zl y10)).trans S10.out.2.2.2.2.2.2.2.2.2.2.2.2.1) (And.intro ((hc11 _ _ (Nat.lt_of_lt_of_le zl y10)).trans S10.out.2.2.2.2.2.2.2.2.2.2.2.2.2.1) (And.intro ((hc11 _ _ (Nat.lt_of_lt_of_le zl y10)).trans S10.out.2.2.2.2.2.2.2.2.2.2.2.2.2.2.1) (And.intro ((hc11 _ _ (Nat.lt_of_lt_of_le zl y10)).trans S10.out.2.2.2.2.2.2.2.2.2.2.2.2.2.2.2.1) (And.intro ((hc11 _ _ (Nat.lt_of_lt_of_le zz y10)).trans S10.out.2.2.2.2.2.2.2.2.2.2.2.2.2.2.2.2.1) (And.intro ((hc11 _ _ (Nat.lt_of_lt_of_le zz y10)).trans S10.out.2.2.2.2.2.2.2.2.2.2.2.2.2.2.2.2.2.1) (And.intro ((hc11 _ _ (Nat.lt_of_lt_of_le zz y10)).trans S10.out.2.2.2.2.2.2.2.2.2.2.2.2.2.2.2.2.2.2.1) (And.intro ((hc11 _ _ (Nat.lt_of_lt_of_le zz y10)).trans S10.out.2.2.2.2.2.2.2.2.2.2.2.2.2.2.2.2.2.2.2.1) ((hc11 _ _ (Nat.lt_of_lt_of_le hbt y10)).trans S10.out.2.2.2.2.2.2.2.2.2.2.2.2.2.2.2.2.2.2.2.2)))))))))))))))))))))); (have y11 : w9.heap.size ≤ w11.heap.size := Nat.le_trans y10 hb11.size); (have F11 := F10.step hb11); (have K11 := Lib.hid (below_next K10.out hb11)); clear hb11 hc11)
        refine hK.out _ _ ?_ (fun hHeld' => ?_)
        (focus ((try dsimp only); (first | done | ((first | (with_reducible exact S13.out) | (with_reducible exact S12.out) | (with_reducible exact S11.out) | (with_reducible exact S10.out) | (with_reducible exact S9.out)); done))))
        clear hK K hHeld
        have hHeld := hHeld'
        clear hHeld'
        (try simp only [Act.put, List.setIfInBounds_toArray, List.set_cons_zero, List.set_cons_succ])
        (refine takeH (i := 4) (v := ?_) (by decide +kernel) (by decide +kernel) (by kernel_rfl) (by rfl) (by exact fun _ _ _ h => h) (by rfl) ?_ (by assumption) ?_); rotate_left; (focus (intro w hSw; (try dsimp only at hSw); go_simp; (try with_reducible rfl); done)); (try simp only [Act.put, List.setIfInBounds_toArray, List.set_cons_zero, List.set_cons_succ])
        (refine takeH (i := 5) (v := ?_) (by decide +kernel) (by decide +kernel) (by kernel_rfl) (by rfl) (by exact fun _ _ _ h => h) (by rfl) ?_ (by assumption) ?_); rotate_left; (focus (intro w hSw; (try dsimp only at hSw); go_simp; (try with_reducible rfl); done)); (try simp only [Act.put, List.setIfInBounds_toArray, List.set_cons_zero, List.set_cons_succ])
        (refine takeH (i := 6) (v := ?_) (by decide +kernel) (by decide +kernel) (by kernel_rfl) (by rfl) (by exact fun _ _ _ h => h) (by rfl) ?_ (by assumption) ?_); rotate_left; (focus (intro w hSw; (try dsimp only at hSw); go_simp; (try with_reducible rfl); done)); (try simp only [Act.put, List.setIfInBounds_toArray, List.set_cons_zero, List.set_cons_succ])
        (refine takeH (i := 7) (v := ?_) (by decide +kernel) (by decide +kernel) (by kernel_rfl) (by rfl) (by exact fun _ _ _ h => h) (by rfl) ?_ (by assumption) ?_); rotate_left; (focus (intro w hSw; (try dsimp only at hSw); go_simp; (try with_reducible rfl); done)); (try simp only [Act.put, List.setIfInBounds_toArray, List.set_cons_zero, List.set_cons_succ])
        (refine takeH (i := 8) (v := ?_) (by decide +kernel) (by decide +kernel) (by kernel_rfl) (by rfl) (by exact fun _ _ _ h => h) (by rfl) ?_ (by assumption) ?_); rotate_left; (focus (intro w hSw; (try dsimp only at hSw); go_simp; (try with_reducible rfl); done)); (try simp only [Act.put, List.setIfInBounds_toArray, List.set_cons_zero, List.set_cons_succ])
        (refine takeH (i := 9) (v := ?_) (by decide +kernel) (by decide +kernel) (by kernel_rfl) (by rfl) (by exact fun _ _ _ h => h) (by rfl) ?_ (by assumption) ?_); rotate_left; (focus (intro w hSw; (try dsimp only at hSw); go_simp; (try with_reducible rfl); done)); (try simp only [Act.put, List.setIfInBounds_toArray, List.set_cons_zero, List.set_cons_succ])
        refine nextH (i := 10) (by decide +kernel) (by rfl) (by rfl) (fun K hK => ?_)
        (go_simp; go_at_call 59; (refine (C5.out _ ⟨(F11.at 3 rfl).1, (F11.at 2 rfl).1⟩).mono ?_); (rintro e w12 ⟨rfl, hb12⟩); (have hc12 := (bcell hb12).1); (have S12 := Lib.hid (And.intro ((hc12 _ _ (Nat.lt_of_lt_of_le zr y11)).trans S11.out.1) (And.intro ((hc12 _ _ (Nat.lt_of_lt_of_le zr y11)).trans S11.out.2.1) (And.intro ((hc12 _ _ (Nat.lt_of_lt_of_le zr y11)).trans S11.out.2.2.1) (And.intro ((hc12 _ _ (Nat.lt_of_lt_of_le zr y11)).trans S11.out.2.2.2.1) (And.intro ((hc12 _ _ (Nat.lt_of_lt_of_le zr y11)).trans S11.out.2.2.2.2.1) (And.intro ((hc12 _ _ (Nat.lt_of_lt_of_le zr y11)).trans S11.out.2.2.2.2.2.1) (And.intro ((hc12 _ _ (Nat.lt_of_lt_of_le zr y11)).trans S11.out.2.2.2.2.2.2.1) (And.intro ((hc12 _ _ (Nat.lt_of_lt_of_le zr y11)).trans S11.out.2.2.2.2.2.2.2.1) (And.intro ((hc12 _ _ (Nat.lt_of_lt_of_le zr y11)).trans S11.out.2.2.2.2.2.2.2.2.1) (And.intro ((hc12 _ _ (Nat.lt_of_lt_of_le zp y11)).trans S11.out.2.2.2.2.2.2.2.2.2.1) (And.intro ((hc12 _ _ (Nat.lt_of_lt_of_le zp y11)).trans S11.out.2.2.2.2.2.2.2.2.2.2.1) (And.intro ((hc12 _ _ (Nat.lt_of_lt_of_le zp y11)).trans S11.out.2.2.2.2.2.2.2.2.2.2.2.1) (And.intro ((hc12 _ _ (Nat.lt_of_lt_of_le zl y11)).trans S11.out.2.2.2.2.2.2.2.2.2.2.2.2.1) (And.intro ((hc12 _ _ (Nat.lt_of_lt_of_le zl y11)).trans S11.out.2.2.2.2.2.2.2.2.2.2.2.2.2.1) (And.intro ((hc12 _ _ (Nat.lt_of_lt_of_le zl y11)).trans S11.out.2.2.2.2.2.2.2.2.2.2.2.2.2.2.1) (And.intro ((hc12 _ _ (Nat.lt_of_lt_of_le zl y11)).trans S11.out.2.2.2.2.2.2.2.2.2.2.2.2.2.2.2.1) (And.intro ((hc12 _ _ (Nat.lt_of_lt_of_le zz y11)).trans S11.out.2.2.2.2.2.2.2.2.2.2.2.2.2.2.2.2.1) (And.intro ((hc12 _ _ (Nat.lt_of_lt_of_le zz y11)).trans S11.out.2.2.2.2.2.2.2.2.2.2.2.2.2.2.2.2.2.1) (And.intro ((hc12 _ _ (Nat.lt_of_lt_of_le zz y11)).trans S11.out.2.2.2.2.2.2.2.2.2.2.2.2.2.2.2.2.2.2.1) (And.intro ((hc12 _ _ (Nat.lt_of_lt_of_le zz y11)).trans S11.out.2.2.2.2.2.2.2.2.2.2.2.2.2.2.2.2.2.2.2.1) ((hc12 _ _ (Nat.lt_of_lt_of_le hbt y11)).trans S11.out.2.2.2.2.2.2.2.2.2.2.2.2.2.2.2.2.2.2.2.2)))))))))))))))))))))); (have y12 : w9.heap.size ≤ w12.heap.size := Nat.le_trans y11 hb12.size); (have F12 := F11.step hb12); (have K12 := Lib.hid (below_next K11.out hb12)); (have hrl := HRL.out); clear hb12 hc12)
        refine hK.out _ _ ?_ (fun hHeld' => ?_)
        (focus ((try dsimp only); (first | done | ((first | (with_reducible exact S13.out) | (with_reducible exact S12.out) | (with_reducible exact S11.out) | (with_reducible exact S10.out) | (with_reducible exact S9.out)); done))))
        clear hK K hHeld
        have hHeld := hHeld'
        clear hHeld'
        (try simp only [Act.put, List.setIfInBounds_toArray, List.set_cons_zero, List.set_cons_succ])
        (refine takeH (i := 11) (v := ?_) (by decide +kernel) (by decide +kernel) (by kernel_rfl) (by rfl) (by exact fun _ _ _ h => h) (by rfl) ?_ (by assumption) ?_); rotate_left; (focus (intro w hSw; (try dsimp only at hSw); go_simp; (try with_reducible rfl); done)); (try simp only [Act.put, List.setIfInBounds_toArray, List.set_cons_zero, List.set_cons_succ])
        (refine takeH (i := 12) (v := ?_) (by decide +kernel) (by decide +kernel) (by kernel_rfl) (by rfl) (by exact fun _ _ _ h => h) (by rfl) ?_ (by assumption) ?_); rotate_left; (focus (intro w hSw; (try dsimp only at hSw); go_simp; (try with_reducible rfl); done)); (try simp only [Act.put, List.setIfInBounds_toArray, List.set_cons_zero, List.set_cons_succ])
        (refine takeH (i := 13) (v := ?_) (by decide +kernel) (by decide +kernel) (by kernel_rfl) (by rfl) (by exact fun _ _ _ h => h) (by rfl) ?_ (by assumption) ?_); rotate_left; (focus (intro w hSw; (try dsimp only at hSw); go_simp; (try with_reducible rfl); done)); (try simp only [Act.put, List.setIfInBounds_toArray, List.set_cons_zero, List.set_cons_succ])
        (refine takeH (i := 14) (v := ?_) (by decide +kernel) (by decide +kernel) (by kernel_rfl) (by rfl) (by exact fun _ _ _ h => h) (by rfl) ?_ (by assumption) ?_); rotate_left; (focus (intro w hSw; (try dsimp only at hSw); go_simp; (try with_reducible rfl); done)); (try simp only [Act.put, List.setIfInBounds_toArray, List.set_cons_zero, List.set_cons_succ])
        (refine takeH (i := 15) (v := ?_) (by decide +kernel) (by decide +kernel) (by kernel_rfl) (by rfl) (by exact fun _ _ _ h => h) (by rfl) ?_ (by assumption) ?_); rotate_left; (focus (intro w hSw; (try dsimp only at hSw); go_simp; (try with_reducible rfl); done)); (try simp only [Act.put, List.setIfInBounds_toArray, List.set_cons_zero, List.set_cons_succ])
        (refine takeH (i := 16) (v := ?_) (by decide +kernel) (by decide +kernel) (by kernel_rfl) (by rfl) (by exact fun _ _ _ h => h) (by rfl) ?_ (by assumption) ?_); rotate_left; (focus (intro w hSw; (try dsimp only at hSw); go_simp; (try with_reducible rfl); done)); (try simp only [Act.put, List.setIfInBounds_toArray, List.set_cons_zero, List.set_cons_succ])
        (refine takeH (i := 17) (v := ?_) (by decide +kernel) (by decide +kernel) (by kernel_rfl) (by rfl) (by exact fun _ _ _ h => h) (by rfl) ?_ (by assumption) ?_); rotate_left; (focus (intro w hSw; (try dsimp only at hSw); go_simp; (try with_reducible rfl); done)); (try simp only [Act.put, List.setIfInBounds_toArray, List.set_cons_zero, List.set_cons_succ])
        (refine takeH (i := 18) (v := ?_) (by decide +kernel) (by decide +kernel) (by kernel_rfl) (by rfl) (by exact fun _ _ _ h => h) (by rfl) ?_ (by assumption) ?_); rotate_left; (focus (intro w hSw; (try dsimp only at hSw); go_simp; (try with_reducible rfl); done)); (try simp only [Act.put, List.setIfInBounds_toArray, List.set_cons_zero, List.set_cons_succ])
        (refine takeH (i := 19) (v := ?_) (by decide +kernel) (by decide +kernel) (by kernel_rfl) (by rfl) (by exact fun _ _ _ h => h) (by rfl) ?_ (by assumption) ?_); rotate_left; (focus (intro w hSw; (try dsimp only at hSw); go_simp; (try with_reducible rfl); done)); (try simp only [Act.put, List.setIfInBounds_toArray, List.set_cons_zero, List.set_cons_succ])
        (refine takeH (i := 20) (v := ?_) (by decide +kernel) (by decide +kernel) (by kernel_rfl) (by rfl) (by exact fun _ _ _ h => h) (by rfl) ?_ (by assumption) ?_); rotate_left; (focus (intro w hSw; (try dsimp only at hSw); go_simp; (try with_reducible rfl); done)); (try simp only [Act.put, List.setIfInBounds_toArray, List.set_cons_zero, List.set_cons_succ])
        (refine takeH (i := 21) (v := ?_) (by decide +kernel) (by decide +kernel) (by kernel_rfl) (by rfl) (by exact fun _ _ _ h => h) (by rfl) ?_ (by assumption) ?_); rotate_left; (focus (intro w hSw; (try dsimp only at hSw); go_simp; (try with_reducible rfl); done)); (try simp only [Act.put, List.setIfInBounds_toArray, List.set_cons_zero, List.set_cons_succ])
        (refine takeH (i := 22) (v := ?_) (by decide +kernel) (by decide +kernel) (by kernel_rfl) (by rfl) (by exact fun _ _ _ h => h) (by rfl) ?_ (by assumption) ?_); rotate_left; (focus (intro w hSw; (try dsimp only at hSw); go_simp; (try with_reducible rfl); done)); (try simp only [Act.put, List.setIfInBounds_toArray, List.set_cons_zero, List.set_cons_succ])
        (refine takeH (i := 23) (v := ?_) (by decide +kernel) (by decide +kernel) (by kernel_rfl) (by rfl) (by exact fun _ _ _ h => h) (by rfl) ?_ (by assumption) ?_); rotate_left; (focus (intro w hSw; (try dsimp only at hSw); go_simp; (try with_reducible rfl); done)); (try simp only [Act.put, List.setIfInBounds_toArray, List.set_cons_zero, List.set_cons_succ])
        (refine takeH (i := 24) (v := ?_) (by decide +kernel) (by decide +kernel) (by kernel_rfl) (by rfl) (by exact fun _ _ _ h => h) (by rfl) ?_ (by assumption) ?_); rotate_left; (focus (intro w hSw; (try dsimp only at hSw); go_simp; (try with_reducible rfl); done)); (try simp only [Act.put, List.setIfInBounds_toArray, List.set_cons_zero, List.set_cons_succ])
        (refine takeH (i := 25) (v := ?_) (by decide +kernel) (by decide +kernel) (by kernel_rfl) (by rfl) (by exact fun _ _ _ h => h) (by rfl) ?_ (by assumption) ?_); rotate_left; (focus (intro w hSw; (try dsimp only at hSw); go_simp; (try with_reducible rfl); done)); (try simp only [Act.put, List.setIfInBounds_toArray, List.set_cons_zero, List.set_cons_succ])
        (refine takeH (i := 26) (v := ?_) (by decide +kernel) (by decide +kernel) (by kernel_rfl) (by rfl) (by exact fun _ _ _ h => h) (by rfl) ?_ (by assumption) ?_); rotate_left; (focus (intro w hSw; (try dsimp only at hSw); go_simp; (try with_reducible rfl); done)); (try simp only [Act.put, List.setIfInBounds_toArray, List.set_cons_zero, List.set_cons_succ])
        (refine takeH (i := 27) (v := ?_) (by decide +kernel) (by decide +kernel) (by kernel_rfl) (by rfl) (by exact fun _ _ _ h => h) (by rfl) ?_ (by assumption) ?_); rotate_left; (focus (intro w hSw; (try dsimp only at hSw); go_simp; (try with_reducible rfl); done)); (try simp only [Act.put, List.setIfInBounds_toArray, List.set_cons_zero, List.set_cons_succ])
        (refine takeH (i := 28) (v := ?_) (by decide +kernel) (by decide +kernel) (by kernel_rfl) (by rfl) (by exact fun _ _ _ h => h) (by rfl) ?_ (by assumption) ?_); rotate_left; (focus (intro w hSw; (try dsimp only at hSw); go_simp; (try with_reducible rfl); done)); (try simp only [Act.put, List.setIfInBounds_toArray, List.set_cons_zero, List.set_cons_succ])
        (refine takeH (i := 29) (v := ?_) (by decide +kernel) (by decide +kernel) (by kernel_rfl) (by rfl) (by exact fun _ _ _ h => h) (by rfl) ?_ (by assumption) ?_); rotate_left; (focus (intro w hSw; (try dsimp only at hSw); go_simp; (try with_reducible rfl); done)); (try simp only [Act.put, List.setIfInBounds_toArray, List.set_cons_zero, List.set_cons_succ])
        (refine takeH (i := 30) (v := ?_) (by decide +kernel) (by decide +kernel) (by kernel_rfl) (by rfl) (by exact fun _ _ _ h => h) (by rfl) ?_ (by assumption) ?_); rotate_left; (focus (intro w hSw; (try dsimp only at hSw); go_simp; (try with_reducible rfl); done)); (try simp only [Act.put, List.setIfInBounds_toArray, List.set_cons_zero, List.set_cons_succ])
        (refine takeH (i := 31) (v := ?_) (by decide +kernel) (by decide +kernel) (by kernel_rfl) (by rfl) (by exact fun _ _ _ h => h) (by rfl) ?_ (by assumption) ?_); rotate_left; (focus (intro w hSw; (try dsimp only at hSw); go_simp; (try with_reducible rfl); done)); (try simp only [Act.put, List.setIfInBounds_toArray, List.set_cons_zero, List.set_cons_succ])
        (refine takeH (i := 32) (v := ?_) (by decide +kernel) (by decide +kernel) (by kernel_rfl) (by rfl) (by exact fun _ _ _ h => h) (by rfl) ?_ (by assumption) ?_); rotate_left; (focus (intro w hSw; (try dsimp only at hSw); go_simp; (try with_reducible rfl); done)); (try simp only [Act.put, List.setIfInBounds_toArray, List.set_cons_zero, List.set_cons_succ])
        (refine takeH (i := 33) (v := ?_) (by decide +kernel) (by decide +kernel) (by kernel_rfl) (by rfl) (by exact fun _ _ _ h => h) (by rfl) ?_ (by assumption) ?_); rotate_left; (focus (intro w hSw; (try dsimp only at hSw); go_simp; (try with_reducible rfl); done)); (try simp only [Act.put, List.setIfInBounds_toArray, List.set_cons_zero, List.set_cons_succ])
        ((refine skipH (i := 34) (by decide +kernel) (by decide +kernel) (by kernel_rfl) (by rfl) (by exact fun _ _ _ h => h) (by rfl) (by assumption) ?_); (try simp only [Act.put, List.setIfInBounds_toArray, List.set_cons_zero, List.set_cons_succ]))
        ((refine skipH (i := 35) (by decide +kernel) (by decide +kernel) (by kernel_rfl) (by rfl) (by exact fun _ _ _ h => h) (by rfl) (by assumption) ?_); (try simp only [Act.put, List.setIfInBounds_toArray, List.set_cons_zero, List.set_cons_succ]))
        ((refine skipH (i := 36) (by decide +kernel) (by decide +kernel) (by kernel_rfl) (by rfl) (by exact fun _ _ _ h => h) (by rfl) (by assumption) ?_); (try simp only [Act.put, List.setIfInBounds_toArray, List.set_cons_zero, List.set_cons_succ]))
        ((refine skipH (i := 37) (by decide +kernel) (by decide +kernel) (by kernel_rfl) (by rfl) (by exact fun _ _ _ h => h) (by rfl) (by assumption) ?_); (try simp only [Act.put, List.setIfInBounds_toArray, List.set_cons_zero, List.set_cons_succ]))
        (refine takeH (i := 38) (v := ?_) (by decide +kernel) (by decide +kernel) (by kernel_rfl) (by rfl) (by exact fun _ _ _ h => h) (by rfl) ?_ (by assumption) ?_); rotate_left; (focus (intro w hSw; (try dsimp only at hSw); go_simp; (try with_reducible rfl); done)); (try simp only [Act.put, List.setIfInBounds_toArray, List.set_cons_zero, List.set_cons_succ])
        (refine takeH (i := 39) (v := ?_) (by decide +kernel) (by decide +kernel) (by kernel_rfl) (by rfl) (by exact fun _ _ _ h => h) (by rfl) ?_ (by assumption) ?_); rotate_left; (focus (intro w hSw; (try dsimp only at hSw); go_simp; (try with_reducible rfl); done)); (try simp only [Act.put, List.setIfInBounds_toArray, List.set_cons_zero, List.set_cons_succ])
        refine wpAnyH_done (by decide +kernel) ?_ _
        clear hHeld hl0 hkki wrk hrl c0 c1 c2 c3 c4 c5 c6 c7 c8 d0 d1 d2 l0 l1 l2 l3 z0 z1 z2 z3 kt zr zp zl zz S9 S10 S11 S12 F10 F11 F9 F6 K10 K11 y10 y11 y12
        have CW := Lib.hid ((R.boxc (F12.at 8 rfl)).1)
        have ZW := Lib.hid (⟨F12.at 1 rfl 1 _ rfl, by have := F12.at 7 rfl 1 _ rfl; simpa using this, by have := F12.at 7 rfl 2 _ rfl; simpa using this⟩ : w12.cell? ⟨w5.heap.size, 1, none⟩ = some (.slice D.sa 2 D.sc) ∧ w12.cell? ⟨w2.heap.size + 1, 1, none⟩ = some (.slice SA 2 SC) ∧ w12.cell? ⟨w2.heap.size + 1, 2, none⟩ = some (.int .i64 1))
        obtain ⟨bz, oz, hza, hbz, kz0, kz1⟩ := two_at ((F12.at 2 rfl).1 : Ints w12 D.sa [pu, zv])
        obtain ⟨bs_, os_, hsa, hbs, ks0, ks1⟩ := two_at ((F12.at 9 rfl).1 : Ints w12 SA [pu, pv])
        have KZ := Lib.hid (And.intro kz0 (And.intro kz1 (And.intro ks0 ks1)))
        rw [hza, hsa] at ZW
        clear kz0 kz1 ks0 ks1
        go_wp2
        go_loopw [14, 15] (fun sv iv wr => ∃ (j m : Nat), iv = .int .i64 j ∧ sv = .int .i64 (cntS (tl.take j)) ∧ j ≤ tl.length ∧ Hid (wr = w12.drewN m)) (fun _ iv _ => tl.length - (intOf iv).toNat)
        case atStart => exact ⟨0, 0, rfl, rfl, Nat.zero_le _, Lib.hid rfl⟩
        case round =>
          obtain ⟨j, m, rfl, rfl, hj, HWR⟩ := hrel
          have HTR : Hid (Ints wr (some ⟨bt, ot, none⟩) tl) := by unfold Hid; rw [HWR.out]; exact HROW.out _ (K12.out.trans (below_draws _ _ m))
          by_cases hlt : j < tl.length
          · obtain ⟨b9, o9, h9, hb9, k9⟩ := Ints.at HTR.out hlt
            cases h9
            have hq := HALL.out tl[j] (List.getElem_mem hlt)
            have HCN := Lib.hid (cntS_next hlt)
            have hcb := cntS_bd (tl.take j)
            have hcl : (tl.take j).length ≤ 100000 := by simp; omega
            have hcb2 : 0 ≤ cntS (tl.take j) ∧ cntS (tl.take j) ≤ 100000 := by omega
            obtain ⟨q, hqq⟩ : ∃ q, q = tl[j] := ⟨_, rfl⟩
            rw [← hqq] at k9 hq HCN
            clear hqq hcb hcl
            have c0 : wr.cell? ⟨w2.heap.size, 0, none⟩ = some (.int .i64 r.pits) := by rw [HWR.out, World.cell?_drewN]; exact CW.out
            have q1 : decide (q < -1) = false := by simp; omega
            have q2 : decide (2 * r.pits ≤ q) = false := by simp; omega
            have wr1 : IntKind.i64.wrap (2 * r.pits) = 2 * r.pits := IntWalk.i64_in _ (by omega)
            go_wp2
            go_quiet (fail)
            clear wr1
            by_cases hq1 : q = -1
            · have q3 : (q == -1) = true := by simpa using hq1
              have HQ1 := Lib.hid hq1
              clear hq1
              go_wp2
              go_roundw
              case rel => exact ⟨j + 1, _, by go_num, by rw [HCN.out, if_pos HQ1.out], by omega, by unfold Hid; rw [HWR.out]; exact World.drewN_drewN ..⟩
              case measure => simp [intOf]; omega
            · have q3 : (q == -1) = false := by simpa using hq1
              have HQ1 := Lib.hid hq1
              clear hq1
              go_wp2
              go_roundw
              case rel => exact ⟨j + 1, _, by go_num, by rw [HCN.out, if_neg HQ1.out, Int.add_zero], by omega, by unfold Hid; rw [HWR.out]; exact World.drewN_drewN ..⟩
              case measure => simp [intOf]; omega
        
          · obtain rfl : j = tl.length := by omega
            have S24 : Hid (wr.drew.cell? ⟨w5.heap.size, 1, none⟩ = some (.slice (some ⟨bz, oz, none⟩) 2 D.sc) ∧ wr.drew.cell? ⟨w2.heap.size + 1, 1, none⟩ = some (.slice (some ⟨bs_, os_, none⟩) 2 SC) ∧ wr.drew.cell? ⟨w2.heap.size + 1, 2, none⟩ = some (.int .i64 1) ∧ wr.drew.cell? ⟨bz, oz, none⟩ = some (.int .i64 pu) ∧ wr.drew.cell? ⟨bz, oz + 1, none⟩ = some (.int .i64 zv) ∧ wr.drew.cell? ⟨bs_, os_, none⟩ = some (.int .i64 pu) ∧ wr.drew.cell? ⟨bs_, os_ + 1, none⟩ = some (.int .i64 pv)) := by
              unfold Hid
              rw [HWR.out]
              exact ⟨ZW.out.1, ZW.out.2.1, ZW.out.2.2, KZ.out.1, KZ.out.2.1, KZ.out.2.2.1, KZ.out.2.2.2⟩
            have q1 : (zv - pv == cntS tl) = true := by rw [HOWN.out]; simp
            have wr1 : IntKind.i64.wrap 0 = 0 := IntWalk.i64_in _ (by omega)
            have wr2 : IntKind.i64.wrap (zv - pv) = zv - pv := IntWalk.i64_in _ (by omega)
            have hB : Hid (Below w2.heap.size w2 wr) := by unfold Hid; rw [HWR.out]; exact (F12.drawn m).below
            go_upto_region 24 with fail
            refine heldH (S := fun W => W.cell? ⟨w5.heap.size, 1, none⟩ = some (.slice (some ⟨bz, oz, none⟩) 2 D.sc) ∧ W.cell? ⟨w2.heap.size + 1, 1, none⟩ = some (.slice (some ⟨bs_, os_, none⟩) 2 SC) ∧ W.cell? ⟨w2.heap.size + 1, 2, none⟩ = some (.int .i64 1) ∧ W.cell? ⟨bz, oz, none⟩ = some (.int .i64 pu) ∧ W.cell? ⟨bz, oz + 1, none⟩ = some (.int .i64 zv) ∧ W.cell? ⟨bs_, os_, none⟩ = some (.int .i64 pu) ∧ W.cell? ⟨bs_, os_ + 1, none⟩ = some (.int .i64 pv)) (n := 33) (listed := #[false, false, false, false, false, false, false, false, false, false, false, false, false, false, false, false, false, false, false, false, false, false, false, false, false, false, false, false, false, false, false, false, false]) (by kernel_rfl) (by rfl) (by rfl) ?_ (fun hHeld => ?_)
            (focus ((try dsimp only); (first | done | ((first | (with_reducible exact S24.out) | exact S24.out); done))))
            (refine takeH (i := 0) (v := ?_) (by decide +kernel) (by decide +kernel) (by kernel_rfl) (by rfl) (by exact fun _ _ _ h => h) (by rfl) ?_ (by assumption) ?_); rotate_left; (focus (intro w hSw; (try dsimp only at hSw); go_simp; (try with_reducible rfl); done)); (try simp only [Act.put, List.setIfInBounds_toArray, List.set_cons_zero, List.set_cons_succ])
            (refine takeH (i := 1) (v := ?_) (by decide +kernel) (by decide +kernel) (by kernel_rfl) (by rfl) (by exact fun _ _ _ h => h) (by rfl) ?_ (by assumption) ?_); rotate_left; (focus (intro w hSw; (try dsimp only at hSw); go_simp; (try with_reducible rfl); done)); (try simp only [Act.put, List.setIfInBounds_toArray, List.set_cons_zero, List.set_cons_succ])
            (refine takeH (i := 2) (v := ?_) (by decide +kernel) (by decide +kernel) (by kernel_rfl) (by rfl) (by exact fun _ _ _ h => h) (by rfl) ?_ (by assumption) ?_); rotate_left; (focus (intro w hSw; (try dsimp only at hSw); go_simp; (try with_reducible rfl); done)); (try simp only [Act.put, List.setIfInBounds_toArray, List.set_cons_zero, List.set_cons_succ])
            (refine takeH (i := 3) (v := ?_) (by decide +kernel) (by decide +kernel) (by kernel_rfl) (by rfl) (by exact fun _ _ _ h => h) (by rfl) ?_ (by assumption) ?_); rotate_left; (focus (intro w hSw; (try dsimp only at hSw); go_simp; (try with_reducible rfl); done)); (try simp only [Act.put, List.setIfInBounds_toArray, List.set_cons_zero, List.set_cons_succ])
            (refine takeH (i := 4) (v := ?_) (by decide +kernel) (by decide +kernel) (by kernel_rfl) (by rfl) (by exact fun _ _ _ h => h) (by rfl) ?_ (by assumption) ?_); rotate_left; (focus (intro w hSw; (try dsimp only at hSw); go_simp; (try with_reducible rfl); done)); (try simp only [Act.put, List.setIfInBounds_toArray, List.set_cons_zero, List.set_cons_succ])
            (refine takeH (i := 5) (v := ?_) (by decide +kernel) (by decide +kernel) (by kernel_rfl) (by rfl) (by exact fun _ _ _ h => h) (by rfl) ?_ (by assumption) ?_); rotate_left; (focus (intro w hSw; (try dsimp only at hSw); go_simp; (try with_reducible rfl); done)); (try simp only [Act.put, List.setIfInBounds_toArray, List.set_cons_zero, List.set_cons_succ])
            (refine takeH (i := 6) (v := ?_) (by decide +kernel) (by decide +kernel) (by kernel_rfl) (by rfl) (by exact fun _ _ _ h => h) (by rfl) ?_ (by assumption) ?_); rotate_left; (focus (intro w hSw; (try dsimp only at hSw); go_simp; (try with_reducible rfl); done)); (try simp only [Act.put, List.setIfInBounds_toArray, List.set_cons_zero, List.set_cons_succ])
            (refine takeH (i := 7) (v := ?_) (by decide +kernel) (by decide +kernel) (by kernel_rfl) (by rfl) (by exact fun _ _ _ h => h) (by rfl) ?_ (by assumption) ?_); rotate_left; (focus (intro w hSw; (try dsimp only at hSw); go_simp; (try with_reducible rfl); done)); (try simp only [Act.put, List.setIfInBounds_toArray, List.set_cons_zero, List.set_cons_succ])
            (refine takeH (i := 8) (v := ?_) (by decide +kernel) (by decide +kernel) (by kernel_rfl) (by rfl) (by exact fun _ _ _ h => h) (by rfl) ?_ (by assumption) ?_); rotate_left; (focus (intro w hSw; (try dsimp only at hSw); go_simp; (try with_reducible rfl); done)); (try simp only [Act.put, List.setIfInBounds_toArray, List.set_cons_zero, List.set_cons_succ])
            (refine takeH (i := 9) (v := ?_) (by decide +kernel) (by decide +kernel) (by kernel_rfl) (by rfl) (by exact fun _ _ _ h => h) (by rfl) ?_ (by assumption) ?_); rotate_left; (focus (intro w hSw; (try dsimp only at hSw); go_simp; (try with_reducible rfl); done)); (try simp only [Act.put, List.setIfInBounds_toArray, List.set_cons_zero, List.set_cons_succ])
            (refine takeH (i := 10) (v := ?_) (by decide +kernel) (by decide +kernel) (by kernel_rfl) (by rfl) (by exact fun _ _ _ h => h) (by rfl) ?_ (by assumption) ?_); rotate_left; (focus (intro w hSw; (try dsimp only at hSw); go_simp; (try with_reducible rfl); done)); (try simp only [Act.put, List.setIfInBounds_toArray, List.set_cons_zero, List.set_cons_succ])
            (refine takeH (i := 11) (v := ?_) (by decide +kernel) (by decide +kernel) (by kernel_rfl) (by rfl) (by exact fun _ _ _ h => h) (by rfl) ?_ (by assumption) ?_); rotate_left; (focus (intro w hSw; (try dsimp only at hSw); go_simp; (try with_reducible rfl); done)); (try simp only [Act.put, List.setIfInBounds_toArray, List.set_cons_zero, List.set_cons_succ])
            (refine takeH (i := 12) (v := ?_) (by decide +kernel) (by decide +kernel) (by kernel_rfl) (by rfl) (by exact fun _ _ _ h => h) (by rfl) ?_ (by assumption) ?_); rotate_left; (focus (intro w hSw; (try dsimp only at hSw); go_simp; (try with_reducible rfl); done)); (try simp only [Act.put, List.setIfInBounds_toArray, List.set_cons_zero, List.set_cons_succ])
            (refine takeH (i := 13) (v := ?_) (by decide +kernel) (by decide +kernel) (by kernel_rfl) (by rfl) (by exact fun _ _ _ h => h) (by rfl) ?_ (by assumption) ?_); rotate_left; (focus (intro w hSw; (try dsimp only at hSw); go_simp; (try with_reducible rfl); done)); (try simp only [Act.put, List.setIfInBounds_toArray, List.set_cons_zero, List.set_cons_succ])
            (refine takeH (i := 14) (v := ?_) (by decide +kernel) (by decide +kernel) (by kernel_rfl) (by rfl) (by exact fun _ _ _ h => h) (by rfl) ?_ (by assumption) ?_); rotate_left; (focus (intro w hSw; (try dsimp only at hSw); go_simp; (try with_reducible rfl); done)); (try simp only [Act.put, List.setIfInBounds_toArray, List.set_cons_zero, List.set_cons_succ])
            (refine takeH (i := 15) (v := ?_) (by decide +kernel) (by decide +kernel) (by kernel_rfl) (by rfl) (by exact fun _ _ _ h => h) (by rfl) ?_ (by assumption) ?_); rotate_left; (focus (intro w hSw; (try dsimp only at hSw); go_simp; (try with_reducible rfl); done)); (try simp only [Act.put, List.setIfInBounds_toArray, List.set_cons_zero, List.set_cons_succ])
            (refine takeH (i := 16) (v := ?_) (by decide +kernel) (by decide +kernel) (by kernel_rfl) (by rfl) (by exact fun _ _ _ h => h) (by rfl) ?_ (by assumption) ?_); rotate_left; (focus (intro w hSw; (try dsimp only at hSw); go_simp; (try with_reducible rfl); done)); (try simp only [Act.put, List.setIfInBounds_toArray, List.set_cons_zero, List.set_cons_succ])
            (refine takeH (i := 17) (v := ?_) (by decide +kernel) (by decide +kernel) (by kernel_rfl) (by rfl) (by exact fun _ _ _ h => h) (by rfl) ?_ (by assumption) ?_); rotate_left; (focus (intro w hSw; (try dsimp only at hSw); go_simp; (try with_reducible rfl); done)); (try simp only [Act.put, List.setIfInBounds_toArray, List.set_cons_zero, List.set_cons_succ])
            (refine takeH (i := 18) (v := ?_) (by decide +kernel) (by decide +kernel) (by kernel_rfl) (by rfl) (by exact fun _ _ _ h => h) (by rfl) ?_ (by assumption) ?_); rotate_left; (focus (intro w hSw; (try dsimp only at hSw); go_simp; (try with_reducible rfl); done)); (try simp only [Act.put, List.setIfInBounds_toArray, List.set_cons_zero, List.set_cons_succ])
            (refine takeH (i := 19) (v := ?_) (by decide +kernel) (by decide +kernel) (by kernel_rfl) (by rfl) (by exact fun _ _ _ h => h) (by rfl) ?_ (by assumption) ?_); rotate_left; (focus (intro w hSw; (try dsimp only at hSw); go_simp; (try with_reducible rfl); done)); (try simp only [Act.put, List.setIfInBounds_toArray, List.set_cons_zero, List.set_cons_succ])
            (refine takeH (i := 20) (v := ?_) (by decide +kernel) (by decide +kernel) (by kernel_rfl) (by rfl) (by exact fun _ _ _ h => h) (by rfl) ?_ (by assumption) ?_); rotate_left; (focus (intro w hSw; (try dsimp only at hSw); go_simp; (try with_reducible rfl); done)); (try simp only [Act.put, List.setIfInBounds_toArray, List.set_cons_zero, List.set_cons_succ])
            (refine takeH (i := 21) (v := ?_) (by decide +kernel) (by decide +kernel) (by kernel_rfl) (by rfl) (by exact fun _ _ _ h => h) (by rfl) ?_ (by assumption) ?_); rotate_left; (focus (intro w hSw; (try dsimp only at hSw); go_simp; (try with_reducible rfl); done)); (try simp only [Act.put, List.setIfInBounds_toArray, List.set_cons_zero, List.set_cons_succ])
            (refine takeH (i := 22) (v := ?_) (by decide +kernel) (by decide +kernel) (by kernel_rfl) (by rfl) (by exact fun _ _ _ h => h) (by rfl) ?_ (by assumption) ?_); rotate_left; (focus (intro w hSw; (try dsimp only at hSw); go_simp; (try with_reducible rfl); done)); (try simp only [Act.put, List.setIfInBounds_toArray, List.set_cons_zero, List.set_cons_succ])
            (refine takeH (i := 23) (v := ?_) (by decide +kernel) (by decide +kernel) (by kernel_rfl) (by rfl) (by exact fun _ _ _ h => h) (by rfl) ?_ (by assumption) ?_); rotate_left; (focus (intro w hSw; (try dsimp only at hSw); go_simp; (try with_reducible rfl); done)); (try simp only [Act.put, List.setIfInBounds_toArray, List.set_cons_zero, List.set_cons_succ])
            (refine takeH (i := 24) (v := ?_) (by decide +kernel) (by decide +kernel) (by kernel_rfl) (by rfl) (by exact fun _ _ _ h => h) (by rfl) ?_ (by assumption) ?_); rotate_left; (focus (intro w hSw; (try dsimp only at hSw); go_simp; (try with_reducible rfl); done)); (try simp only [Act.put, List.setIfInBounds_toArray, List.set_cons_zero, List.set_cons_succ])
            (refine takeH (i := 25) (v := ?_) (by decide +kernel) (by decide +kernel) (by kernel_rfl) (by rfl) (by exact fun _ _ _ h => h) (by rfl) ?_ (by assumption) ?_); rotate_left; (focus (intro w hSw; (try dsimp only at hSw); go_simp; (try with_reducible rfl); done)); (try simp only [Act.put, List.setIfInBounds_toArray, List.set_cons_zero, List.set_cons_succ])
            (refine takeH (i := 26) (v := ?_) (by decide +kernel) (by decide +kernel) (by kernel_rfl) (by rfl) (by exact fun _ _ _ h => h) (by rfl) ?_ (by assumption) ?_); rotate_left; (focus (intro w hSw; (try dsimp only at hSw); go_simp; (try with_reducible rfl); done)); (try simp only [Act.put, List.setIfInBounds_toArray, List.set_cons_zero, List.set_cons_succ])
            (refine takeH (i := 27) (v := ?_) (by decide +kernel) (by decide +kernel) (by kernel_rfl) (by rfl) (by exact fun _ _ _ h => h) (by rfl) ?_ (by assumption) ?_); rotate_left; (focus (intro w hSw; (try dsimp only at hSw); go_simp; (try with_reducible rfl); done)); (try simp only [Act.put, List.setIfInBounds_toArray, List.set_cons_zero, List.set_cons_succ])
            (refine takeH (i := 28) (v := ?_) (by decide +kernel) (by decide +kernel) (by kernel_rfl) (by rfl) (by exact fun _ _ _ h => h) (by rfl) ?_ (by assumption) ?_); rotate_left; (focus (intro w hSw; (try dsimp only at hSw); go_simp; (try with_reducible rfl); done)); (try simp only [Act.put, List.setIfInBounds_toArray, List.set_cons_zero, List.set_cons_succ])
            (refine takeH (i := 29) (v := ?_) (by decide +kernel) (by decide +kernel) (by kernel_rfl) (by rfl) (by exact fun _ _ _ h => h) (by rfl) ?_ (by assumption) ?_); rotate_left; (focus (intro w hSw; (try dsimp only at hSw); go_simp; (try with_reducible rfl); done)); (try simp only [Act.put, List.setIfInBounds_toArray, List.set_cons_zero, List.set_cons_succ])
            (refine takeH (i := 30) (v := ?_) (by decide +kernel) (by decide +kernel) (by kernel_rfl) (by rfl) (by exact fun _ _ _ h => h) (by rfl) ?_ (by assumption) ?_); rotate_left; (focus (intro w hSw; (try dsimp only at hSw); go_simp; (try with_reducible rfl); done)); (try simp only [Act.put, List.setIfInBounds_toArray, List.set_cons_zero, List.set_cons_succ])
            (refine takeH (i := 31) (v := ?_) (by decide +kernel) (by decide +kernel) (by kernel_rfl) (by rfl) (by exact fun _ _ _ h => h) (by rfl) ?_ (by assumption) ?_); rotate_left; (focus (intro w hSw; (try dsimp only at hSw); go_simp; (try with_reducible rfl); done)); (try simp only [Act.put, List.setIfInBounds_toArray, List.set_cons_zero, List.set_cons_succ])
            (refine takeH (i := 32) (v := ?_) (by decide +kernel) (by decide +kernel) (by kernel_rfl) (by rfl) (by exact fun _ _ _ h => h) (by rfl) ?_ (by assumption) ?_); rotate_left; (focus (intro w hSw; (try dsimp only at hSw); go_simp; (try with_reducible rfl); done)); (try simp only [Act.put, List.setIfInBounds_toArray, List.set_cons_zero, List.set_cons_succ])
            refine wpAnyH_done (by decide +kernel) ?_ _
            clear hHeld wr1 wr2
            go_wp2
            go_ret
            exact ⟨rfl, HW.out _ hB.out.drew⟩
      · have HRL := Lib.hid hrl
        clear hrl
        have hs := hsame HRL.out
        simp only [Sn.mk.injEq] at hs
        obtain ⟨e1, e2, e3, e4⟩ := hs
        subst e1 e2 e3 e4
        have C6 := Lib.hid (fun W h h' => sSameSown_c ⟨zp', [pu, zv], zl', 1⟩ D B W h h' (by unfold maxLen; dsimp only; omega) (by unfold maxLen; simp))
        obtain ⟨c0, c1, c2, c3, c4, c5, c6, c7, c8⟩ := R.boxc (F9.at 8 rfl)
        obtain ⟨d0, d1, d2⟩ := P.boxc (F9.at 7 rfl)
        simp only [World.size_alloc] at d0 d1 d2
        obtain ⟨l0, l1, l2, l3⟩ := (⟨F9.at 4 rfl 0 _ rfl, F9.at 4 rfl 1 _ rfl, F9.at 4 rfl 2 _ rfl, F9.at 4 rfl 3 _ rfl⟩ : _ ∧ _ ∧ _ ∧ _)
        obtain ⟨z0, z1, z2, z3⟩ := (⟨F9.at 1 rfl 0 _ rfl, F9.at 1 rfl 1 _ rfl, F9.at 1 rfl 2 _ rfl, F9.at 1 rfl 3 _ rfl⟩ : _ ∧ _ ∧ _ ∧ _)
        have S9 : Hid (w9.drew.cell? ⟨w2.heap.size, 0, none⟩ = some (.int .i64 r.pits) ∧ w9.drew.cell? ⟨w2.heap.size, 1, none⟩ = some (.int .i64 r.seeds) ∧ w9.drew.cell? ⟨w2.heap.size, 2, none⟩ = some (.bool r.stores) ∧ w9.drew.cell? ⟨w2.heap.size, 3, none⟩ = some (.bool r.skip) ∧ w9.drew.cell? ⟨w2.heap.size, 4, none⟩ = some (.bool r.relay) ∧ w9.drew.cell? ⟨w2.heap.size, 5, none⟩ = some (.bool r.feed) ∧ w9.drew.cell? ⟨w2.heap.size, 6, none⟩ = some (.bool r.again) ∧ w9.drew.cell? ⟨w2.heap.size, 7, none⟩ = some (.int .i64 r.capture) ∧ w9.drew.cell? ⟨w2.heap.size, 8, none⟩ = some (.int .i64 r.slam) ∧ w9.drew.cell? ⟨w2.heap.size + 1, 0, none⟩ = some (.slice (some ⟨bp, op, none⟩) pp.length AC) ∧ w9.drew.cell? ⟨w2.heap.size + 1, 1, none⟩ = some (.slice SA 2 SC) ∧ w9.drew.cell? ⟨w2.heap.size + 1, 2, none⟩ = some (.int .i64 1) ∧ w9.drew.cell? ⟨w4.heap.size, 0, none⟩ = some (.slice B.pa zp'.length B.pc) ∧ w9.drew.cell? ⟨w4.heap.size, 1, none⟩ = some (.slice B.sa 2 B.sc) ∧ w9.drew.cell? ⟨w4.heap.size, 2, none⟩ = some (.int .i64 zl') ∧ w9.drew.cell? ⟨w4.heap.size, 3, none⟩ = some (.int .i64 1) ∧ w9.drew.cell? ⟨w5.heap.size, 0, none⟩ = some (.slice D.pa zp'.length D.pc) ∧ w9.drew.cell? ⟨w5.heap.size, 1, none⟩ = some (.slice D.sa 2 D.sc) ∧ w9.drew.cell? ⟨w5.heap.size, 2, none⟩ = some (.int .i64 zl') ∧ w9.drew.cell? ⟨w5.heap.size, 3, none⟩ = some (.int .i64 1) ∧ w9.drew.cell? ⟨bt, ot + kk, none⟩ = some (.int .i64 zl')) := (And.intro (c0) (And.intro (c1) (And.intro (c2) (And.intro (c3) (And.intro (c4) (And.intro (c5) (And.intro (c6) (And.intro (c7) (And.intro (c8) (And.intro (d0) (And.intro (d1) (And.intro (d2) (And.intro (l0) (And.intro (l1) (And.intro (l2) (And.intro (l3) (And.intro (z0) (And.intro (z1) (And.intro (z2) (And.intro (z3) (kt)))))))))))))))))))))
        have hl0 : ((tl.length : Int) == 0) = false := by have : ¬ (tl.length : Int) = 0 := by omega
                                                          simpa using this
        have hkki : (kk : Int) < (tl.length : Int) := by omega
        have wrk : IntKind.i64.wrap ((tl.length : Int) - 1) = (kk : Int) := (IntWalk.i64_in _ (by omega)).trans (by have := HKK.out; omega)
        go_upto_region 14 with fail
        refine heldH (S := fun W => W.cell? ⟨w2.heap.size, 0, none⟩ = some (.int .i64 r.pits) ∧ W.cell? ⟨w2.heap.size, 1, none⟩ = some (.int .i64 r.seeds) ∧ W.cell? ⟨w2.heap.size, 2, none⟩ = some (.bool r.stores) ∧ W.cell? ⟨w2.heap.size, 3, none⟩ = some (.bool r.skip) ∧ W.cell? ⟨w2.heap.size, 4, none⟩ = some (.bool r.relay) ∧ W.cell? ⟨w2.heap.size, 5, none⟩ = some (.bool r.feed) ∧ W.cell? ⟨w2.heap.size, 6, none⟩ = some (.bool r.again) ∧ W.cell? ⟨w2.heap.size, 7, none⟩ = some (.int .i64 r.capture) ∧ W.cell? ⟨w2.heap.size, 8, none⟩ = some (.int .i64 r.slam) ∧ W.cell? ⟨w2.heap.size + 1, 0, none⟩ = some (.slice (some ⟨bp, op, none⟩) pp.length AC) ∧ W.cell? ⟨w2.heap.size + 1, 1, none⟩ = some (.slice SA 2 SC) ∧ W.cell? ⟨w2.heap.size + 1, 2, none⟩ = some (.int .i64 1) ∧ W.cell? ⟨w4.heap.size, 0, none⟩ = some (.slice B.pa zp'.length B.pc) ∧ W.cell? ⟨w4.heap.size, 1, none⟩ = some (.slice B.sa 2 B.sc) ∧ W.cell? ⟨w4.heap.size, 2, none⟩ = some (.int .i64 zl') ∧ W.cell? ⟨w4.heap.size, 3, none⟩ = some (.int .i64 1) ∧ W.cell? ⟨w5.heap.size, 0, none⟩ = some (.slice D.pa zp'.length D.pc) ∧ W.cell? ⟨w5.heap.size, 1, none⟩ = some (.slice D.sa 2 D.sc) ∧ W.cell? ⟨w5.heap.size, 2, none⟩ = some (.int .i64 zl') ∧ W.cell? ⟨w5.heap.size, 3, none⟩ = some (.int .i64 1) ∧ W.cell? ⟨bt, ot + kk, none⟩ = some (.int .i64 zl')) (n := 40) (listed := #[false, false, false, false, false, false, false, false, false, false, false, false, false, false, false, false, false, false, false, false, false, false, false, false, false, false, false, false, false, false, false, false, false, false, false, false, false, false, false, false]) (by kernel_rfl) (by rfl) (by rfl) ?_ (fun hHeld => ?_)
        (focus ((try dsimp only); (first | done | ((first | (with_reducible exact S13.out) | (with_reducible exact S12.out) | (with_reducible exact S11.out) | (with_reducible exact S10.out) | (with_reducible exact S9.out)); done))))
        (refine takeH (i := 0) (v := ?_) (by decide +kernel) (by decide +kernel) (by kernel_rfl) (by rfl) (by exact fun _ _ _ h => h) (by rfl) ?_ (by assumption) ?_); rotate_left; (focus (intro w hSw; (try dsimp only at hSw); go_simp; (try with_reducible rfl); done)); (try simp only [Act.put, List.setIfInBounds_toArray, List.set_cons_zero, List.set_cons_succ])
        (refine takeH (i := 2) (v := ?_) (by decide +kernel) (by decide +kernel) (by kernel_rfl) (by rfl) (by exact fun _ _ _ h => h) (by rfl) ?_ (by assumption) ?_); rotate_left; (focus (intro w hSw; (try dsimp only at hSw); go_simp; (try with_reducible rfl); done)); (try simp only [Act.put, List.setIfInBounds_toArray, List.set_cons_zero, List.set_cons_succ])
        refine nextH (i := 1) (by decide +kernel) (by rfl) (by rfl) (fun K hK => ?_)
        (go_simp; go_at_call 56; (refine (C4.out _ ⟨(F9.drew.at 3 rfl).1, (F9.drew.at 2 rfl).1⟩).mono ?_); (rintro e w10 ⟨rfl, hb10⟩); (have hc10 := (bcell hb10).1); (have S10 := Lib.hid (And.intro ((hc10 _ _ zr).trans S9.out.1) (And.intro ((hc10 _ _ zr).trans S9.out.2.1) (And.intro ((hc10 _ _ zr).trans S9.out.2.2.1) (And.intro ((hc10 _ _ zr).trans S9.out.2.2.2.1) (And.intro ((hc10 _ _ zr).trans S9.out.2.2.2.2.1) (And.intro ((hc10 _ _ zr).trans S9.out.2.2.2.2.2.1) (And.intro ((hc10 _ _ zr).trans S9.out.2.2.2.2.2.2.1) (And.intro ((hc10 _ _ zr).trans S9.out.2.2.2.2.2.2.2.1) (And.intro ((hc10 _ _ zr).trans S9.out.2.2.2.2.2.2.2.2.1) (And.intro ((hc10 _ _ zp).trans S9.out.2.2.2.2.2.2.2.2.2.1) (And.intro ((hc10 _ _ zp).trans S9.out.2.2.2.2.2.2.2.2.2.2.1) (And.intro ((hc10 _ _ zp).trans S9.out.2.2.2.2.2.2.2.2.2.2.2.1) (And.intro ((hc10 _ _ zl).trans S9.out.2.2.2.2.2.2.2.2.2.2.2.2.1) (And.intro ((hc10 _ _ zl).trans S9.out.2.2.2.2.2.2.2.2.2.2.2.2.2.1) (And.intro ((hc10 _ _ zl).trans S9.out.2.2.2.2.2.2.2.2.2.2.2.2.2.2.1) (And.intro ((hc10 _ _ zl).trans S9.out.2.2.2.2.2.2.2.2.2.2.2.2.2.2.2.1) (And.intro ((hc10 _ _ zz).trans S9.out.2.2.2.2.2.2.2.2.2.2.2.2.2.2.2.2.1) (And.intro ((hc10 _ _ zz).trans S9.out.2.2.2.2.2.2.2.2.2.2.2.2.2.2.2.2.2.1) (And.intro ((hc10 _ _ zz).trans S9.out.2.2.2.2.2.2.2.2.2.2.2.2.2.2.2.2.2.2.1) (And.intro ((hc10 _ _ zz).trans S9.out.2.2.2.2.2.2.2.2.2.2.2.2.2.2.2.2.2.2.2.1) ((hc10 _ _ hbt).trans S9.out.2.2.2.2.2.2.2.2.2.2.2.2.2.2.2.2.2.2.2.2)))))))))))))))))))))); (have y10 : w9.heap.size ≤ w10.heap.size := hb10.size); (have F10 := F9.drew.step hb10); (have K10 : Hid (Below w9.heap.size w9 w10) := (Below.refl _ _).drew.trans hb10); clear hb10 hc10)
        refine hK.out _ _ ?_ (fun hHeld' => ?_)
        (focus ((try dsimp only); (first | done | ((first | (with_reducible exact S13.out) | (with_reducible exact S12.out) | (with_reducible exact S11.out) | (with_reducible exact S10.out) | (with_reducible exact S9.out)); done))))
        clear hK K hHeld
        have hHeld := hHeld'
        clear hHeld'
        (try simp only [Act.put, List.setIfInBounds_toArray, List.set_cons_zero, List.set_cons_succ])
        refine nextH (i := 3) (by decide +kernel) (by rfl) (by rfl) (fun K hK => ?_)
        (go_simp; go_at_call 57; (refine (C2.out _ ⟨(F10.at 10 rfl).1, (F10.at 9 rfl).1⟩).mono ?_); (rintro e w11 ⟨rfl, hb11⟩); (have hc11 := (bcell hb11).1); (have S11 := Lib.hid (And.intro ((hc11 _ _ (Nat.lt_of_lt_of_le zr y10)).trans S10.out.1) (And.intro ((hc11 _ _ (Nat.lt_of_lt_of_le zr y10)).trans S10.out.2.1) (And.intro ((hc11 _ _ (Nat.lt_of_lt_of_le zr y10)).trans S10.out.2.2.1) (And.intro ((hc11 _ _ (Nat.lt_of_lt_of_le zr y10)).trans S10.out.2.2.2.1) (And.intro ((hc11 _ _ (Nat.lt_of_lt_of_le zr y10)).trans S10.out.2.2.2.2.1) (And.intro ((hc11 _ _ (Nat.lt_of_lt_of_le zr y10)).trans S10.out.2.2.2.2.2.1) (And.intro ((hc11 _ _ (Nat.lt_of_lt_of_le zr y10)).trans S10.out.2.2.2.2.2.2.1) (And.intro ((hc11 _ _ (Nat.lt_of_lt_of_le zr y10)).trans S10.out.2.2.2.2.2.2.2.1) (And.intro ((hc11 _ _ (Nat.lt_of_lt_of_le zr y10)).trans S10.out.2.2.2.2.2.2.2.2.1) (And.intro ((hc11 _ _ (Nat.lt_of_lt_of_le zp y10)).trans S10.out.2.2.2.2.2.2.2.2.2.1) (And.intro ((hc11 _ _ (Nat.lt_of_lt_of_le zp y10)).trans S10.out.2.2.2.2.2.2.2.2.2.2.1) (And.intro ((hc11 _ _ (Nat.lt_of_lt_of_le zp y10)).trans S10.out.2.2.2.2.2.2.2.2.2.2.2.1) (And.intro ((hc11 _ _ (Nat.lt_of_lt_of_le zl y10)).trans S10.out.2.2.2.2.2.2.2.2.2.2.2.2.1) (And.intro ((hc11 _ _ (Nat.lt_of_lt_of_le zl y10)).trans S10.out.2.2.2.2.2.2.2.2.2.2.2.2.2.1) (And.intro ((hc11 _ _ (Nat.lt_of_lt_of_le zl y10)).trans S10.out.2.2.2.2.2.2.2.2.2.2.2.2.2.2.1) (And.intro ((hc11 _ _ (Nat.lt_of_lt_of_le zl y10)).trans S10.out.2.2.2.2.2.2.2.2.2.2.2.2.2.2.2.1) (And.intro ((hc11 _ _ (Nat.lt_of_lt_of_le zz y10)).trans S10.out.2.2.2.2.2.2.2.2.2.2.2.2.2.2.2.2.1) (And.intro ((hc11 _ _ (Nat.lt_of_lt_of_le zz y10)).trans S10.out.2.2.2.2.2.2.2.2.2.2.2.2.2.2.2.2.2.1) (And.intro ((hc11 _ _ (Nat.lt_of_lt_of_le zz y10)).trans S10.out.2.2.2.2.2.2.2.2.2.2.2.2.2.2.2.2.2.2.1) (And.intro ((hc11 _ _ (Nat.lt_of_lt_of_le zz y10)).trans S10.out.2.2.2.2.2.2.2.2.2.2.2.2.2.2.2.2.2.2.2.1) ((hc11 _ _ (Nat.lt_of_lt_of_le hbt y10)).trans S10.out.2.2.2.2.2.2.2.2.2.2.2.2.2.2.2.2.2.2.2.2)))))))))))))))))))))); (have y11 : w9.heap.size ≤ w11.heap.size := Nat.le_trans y10 hb11.size); (have F11 := F10.step hb11); (have K11 := Lib.hid (below_next K10.out hb11)); clear hb11 hc11)
        refine hK.out _ _ ?_ (fun hHeld' => ?_)
        (focus ((try dsimp only); (first | done | ((first | (with_reducible exact S13.out) | (with_reducible exact S12.out) | (with_reducible exact S11.out) | (with_reducible exact S10.out) | (with_reducible exact S9.out)); done))))
        clear hK K hHeld
        have hHeld := hHeld'
        clear hHeld'
        (try simp only [Act.put, List.setIfInBounds_toArray, List.set_cons_zero, List.set_cons_succ])
        (refine takeH (i := 4) (v := ?_) (by decide +kernel) (by decide +kernel) (by kernel_rfl) (by rfl) (by exact fun _ _ _ h => h) (by rfl) ?_ (by assumption) ?_); rotate_left; (focus (intro w hSw; (try dsimp only at hSw); go_simp; (try with_reducible rfl); done)); (try simp only [Act.put, List.setIfInBounds_toArray, List.set_cons_zero, List.set_cons_succ])
        (refine takeH (i := 5) (v := ?_) (by decide +kernel) (by decide +kernel) (by kernel_rfl) (by rfl) (by exact fun _ _ _ h => h) (by rfl) ?_ (by assumption) ?_); rotate_left; (focus (intro w hSw; (try dsimp only at hSw); go_simp; (try with_reducible rfl); done)); (try simp only [Act.put, List.setIfInBounds_toArray, List.set_cons_zero, List.set_cons_succ])
        (refine takeH (i := 6) (v := ?_) (by decide +kernel) (by decide +kernel) (by kernel_rfl) (by rfl) (by exact fun _ _ _ h => h) (by rfl) ?_ (by assumption) ?_); rotate_left; (focus (intro w hSw; (try dsimp only at hSw); go_simp; (try with_reducible rfl); done)); (try simp only [Act.put, List.setIfInBounds_toArray, List.set_cons_zero, List.set_cons_succ])
        (refine takeH (i := 7) (v := ?_) (by decide +kernel) (by decide +kernel) (by kernel_rfl) (by rfl) (by exact fun _ _ _ h => h) (by rfl) ?_ (by assumption) ?_); rotate_left; (focus (intro w hSw; (try dsimp only at hSw); go_simp; (try with_reducible rfl); done)); (try simp only [Act.put, List.setIfInBounds_toArray, List.set_cons_zero, List.set_cons_succ])
        (refine takeH (i := 8) (v := ?_) (by decide +kernel) (by decide +kernel) (by kernel_rfl) (by rfl) (by exact fun _ _ _ h => h) (by rfl) ?_ (by assumption) ?_); rotate_left; (focus (intro w hSw; (try dsimp only at hSw); go_simp; (try with_reducible rfl); done)); (try simp only [Act.put, List.setIfInBounds_toArray, List.set_cons_zero, List.set_cons_succ])
        (refine takeH (i := 9) (v := ?_) (by decide +kernel) (by decide +kernel) (by kernel_rfl) (by rfl) (by exact fun _ _ _ h => h) (by rfl) ?_ (by assumption) ?_); rotate_left; (focus (intro w hSw; (try dsimp only at hSw); go_simp; (try with_reducible rfl); done)); (try simp only [Act.put, List.setIfInBounds_toArray, List.set_cons_zero, List.set_cons_succ])
        refine nextH (i := 10) (by decide +kernel) (by rfl) (by rfl) (fun K hK => ?_)
        (go_simp; go_at_call 59; (refine (C5.out _ ⟨(F11.at 3 rfl).1, (F11.at 2 rfl).1⟩).mono ?_); (rintro e w12 ⟨rfl, hb12⟩); (have hc12 := (bcell hb12).1); (have S12 := Lib.hid (And.intro ((hc12 _ _ (Nat.lt_of_lt_of_le zr y11)).trans S11.out.1) (And.intro ((hc12 _ _ (Nat.lt_of_lt_of_le zr y11)).trans S11.out.2.1) (And.intro ((hc12 _ _ (Nat.lt_of_lt_of_le zr y11)).trans S11.out.2.2.1) (And.intro ((hc12 _ _ (Nat.lt_of_lt_of_le zr y11)).trans S11.out.2.2.2.1) (And.intro ((hc12 _ _ (Nat.lt_of_lt_of_le zr y11)).trans S11.out.2.2.2.2.1) (And.intro ((hc12 _ _ (Nat.lt_of_lt_of_le zr y11)).trans S11.out.2.2.2.2.2.1) (And.intro ((hc12 _ _ (Nat.lt_of_lt_of_le zr y11)).trans S11.out.2.2.2.2.2.2.1) (And.intro ((hc12 _ _ (Nat.lt_of_lt_of_le zr y11)).trans S11.out.2.2.2.2.2.2.2.1) (And.intro ((hc12 _ _ (Nat.lt_of_lt_of_le zr y11)).trans S11.out.2.2.2.2.2.2.2.2.1) (And.intro ((hc12 _ _ (Nat.lt_of_lt_of_le zp y11)).trans S11.out.2.2.2.2.2.2.2.2.2.1) (And.intro ((hc12 _ _ (Nat.lt_of_lt_of_le zp y11)).trans S11.out.2.2.2.2.2.2.2.2.2.2.1) (And.intro ((hc12 _ _ (Nat.lt_of_lt_of_le zp y11)).trans S11.out.2.2.2.2.2.2.2.2.2.2.2.1) (And.intro ((hc12 _ _ (Nat.lt_of_lt_of_le zl y11)).trans S11.out.2.2.2.2.2.2.2.2.2.2.2.2.1) (And.intro ((hc12 _ _ (Nat.lt_of_lt_of_le zl y11)).trans S11.out.2.2.2.2.2.2.2.2.2.2.2.2.2.1) (And.intro ((hc12 _ _ (Nat.lt_of_lt_of_le zl y11)).trans S11.out.2.2.2.2.2.2.2.2.2.2.2.2.2.2.1) (And.intro ((hc12 _ _ (Nat.lt_of_lt_of_le zl y11)).trans S11.out.2.2.2.2.2.2.2.2.2.2.2.2.2.2.2.1) (And.intro ((hc12 _ _ (Nat.lt_of_lt_of_le zz y11)).trans S11.out.2.2.2.2.2.2.2.2.2.2.2.2.2.2.2.2.1) (And.intro ((hc12 _ _ (Nat.lt_of_lt_of_le zz y11)).trans S11.out.2.2.2.2.2.2.2.2.2.2.2.2.2.2.2.2.2.1) (And.intro ((hc12 _ _ (Nat.lt_of_lt_of_le zz y11)).trans S11.out.2.2.2.2.2.2.2.2.2.2.2.2.2.2.2.2.2.2.1) (And.intro ((hc12 _ _ (Nat.lt_of_lt_of_le zz y11)).trans S11.out.2.2.2.2.2.2.2.2.2.2.2.2.2.2.2.2.2.2.2.1) ((hc12 _ _ (Nat.lt_of_lt_of_le hbt y11)).trans S11.out.2.2.2.2.2.2.2.2.2.2.2.2.2.2.2.2.2.2.2.2)))))))))))))))))))))); (have y12 : w9.heap.size ≤ w12.heap.size := Nat.le_trans y11 hb12.size); (have F12 := F11.step hb12); (have K12 := Lib.hid (below_next K11.out hb12)); (have hrl := HRL.out); clear hb12 hc12)
        refine hK.out _ _ ?_ (fun hHeld' => ?_)
        (focus ((try dsimp only); (first | done | ((first | (with_reducible exact S13.out) | (with_reducible exact S12.out) | (with_reducible exact S11.out) | (with_reducible exact S10.out) | (with_reducible exact S9.out)); done))))
        clear hK K hHeld
        have hHeld := hHeld'
        clear hHeld'
        (try simp only [Act.put, List.setIfInBounds_toArray, List.set_cons_zero, List.set_cons_succ])
        (refine takeH (i := 11) (v := ?_) (by decide +kernel) (by decide +kernel) (by kernel_rfl) (by rfl) (by exact fun _ _ _ h => h) (by rfl) ?_ (by assumption) ?_); rotate_left; (focus (intro w hSw; (try dsimp only at hSw); go_simp; (try with_reducible rfl); done)); (try simp only [Act.put, List.setIfInBounds_toArray, List.set_cons_zero, List.set_cons_succ])
        (refine takeH (i := 12) (v := ?_) (by decide +kernel) (by decide +kernel) (by kernel_rfl) (by rfl) (by exact fun _ _ _ h => h) (by rfl) ?_ (by assumption) ?_); rotate_left; (focus (intro w hSw; (try dsimp only at hSw); go_simp; (try with_reducible rfl); done)); (try simp only [Act.put, List.setIfInBounds_toArray, List.set_cons_zero, List.set_cons_succ])
        (refine takeH (i := 13) (v := ?_) (by decide +kernel) (by decide +kernel) (by kernel_rfl) (by rfl) (by exact fun _ _ _ h => h) (by rfl) ?_ (by assumption) ?_); rotate_left; (focus (intro w hSw; (try dsimp only at hSw); go_simp; (try with_reducible rfl); done)); (try simp only [Act.put, List.setIfInBounds_toArray, List.set_cons_zero, List.set_cons_succ])
        (refine takeH (i := 14) (v := ?_) (by decide +kernel) (by decide +kernel) (by kernel_rfl) (by rfl) (by exact fun _ _ _ h => h) (by rfl) ?_ (by assumption) ?_); rotate_left; (focus (intro w hSw; (try dsimp only at hSw); go_simp; (try with_reducible rfl); done)); (try simp only [Act.put, List.setIfInBounds_toArray, List.set_cons_zero, List.set_cons_succ])
        (refine takeH (i := 15) (v := ?_) (by decide +kernel) (by decide +kernel) (by kernel_rfl) (by rfl) (by exact fun _ _ _ h => h) (by rfl) ?_ (by assumption) ?_); rotate_left; (focus (intro w hSw; (try dsimp only at hSw); go_simp; (try with_reducible rfl); done)); (try simp only [Act.put, List.setIfInBounds_toArray, List.set_cons_zero, List.set_cons_succ])
        (refine takeH (i := 16) (v := ?_) (by decide +kernel) (by decide +kernel) (by kernel_rfl) (by rfl) (by exact fun _ _ _ h => h) (by rfl) ?_ (by assumption) ?_); rotate_left; (focus (intro w hSw; (try dsimp only at hSw); go_simp; (try with_reducible rfl); done)); (try simp only [Act.put, List.setIfInBounds_toArray, List.set_cons_zero, List.set_cons_succ])
        (refine takeH (i := 17) (v := ?_) (by decide +kernel) (by decide +kernel) (by kernel_rfl) (by rfl) (by exact fun _ _ _ h => h) (by rfl) ?_ (by assumption) ?_); rotate_left; (focus (intro w hSw; (try dsimp only at hSw); go_simp; (try with_reducible rfl); done)); (try simp only [Act.put, List.setIfInBounds_toArray, List.set_cons_zero, List.set_cons_succ])
        (refine takeH (i := 18) (v := ?_) (by decide +kernel) (by decide +kernel) (by kernel_rfl) (by rfl) (by exact fun _ _ _ h => h) (by rfl) ?_ (by assumption) ?_); rotate_left; (focus (intro w hSw; (try dsimp only at hSw); go_simp; (try with_reducible rfl); done)); (try simp only [Act.put, List.setIfInBounds_toArray, List.set_cons_zero, List.set_cons_succ])
        (refine takeH (i := 19) (v := ?_) (by decide +kernel) (by decide +kernel) (by kernel_rfl) (by rfl) (by exact fun _ _ _ h => h) (by rfl) ?_ (by assumption) ?_); rotate_left; (focus (intro w hSw; (try dsimp only at hSw); go_simp; (try with_reducible rfl); done)); (try simp only [Act.put, List.setIfInBounds_toArray, List.set_cons_zero, List.set_cons_succ])
        (refine takeH (i := 20) (v := ?_) (by decide +kernel) (by decide +kernel) (by kernel_rfl) (by rfl) (by exact fun _ _ _ h => h) (by rfl) ?_ (by assumption) ?_); rotate_left; (focus (intro w hSw; (try dsimp only at hSw); go_simp; (try with_reducible rfl); done)); (try simp only [Act.put, List.setIfInBounds_toArray, List.set_cons_zero, List.set_cons_succ])
        (refine takeH (i := 21) (v := ?_) (by decide +kernel) (by decide +kernel) (by kernel_rfl) (by rfl) (by exact fun _ _ _ h => h) (by rfl) ?_ (by assumption) ?_); rotate_left; (focus (intro w hSw; (try dsimp only at hSw); go_simp; (try with_reducible rfl); done)); (try simp only [Act.put, List.setIfInBounds_toArray, List.set_cons_zero, List.set_cons_succ])
        (refine takeH (i := 22) (v := ?_) (by decide +kernel) (by decide +kernel) (by kernel_rfl) (by rfl) (by exact fun _ _ _ h => h) (by rfl) ?_ (by assumption) ?_); rotate_left; (focus (intro w hSw; (try dsimp only at hSw); go_simp; (try with_reducible rfl); done)); (try simp only [Act.put, List.setIfInBounds_toArray, List.set_cons_zero, List.set_cons_succ])
        (refine takeH (i := 23) (v := ?_) (by decide +kernel) (by decide +kernel) (by kernel_rfl) (by rfl) (by exact fun _ _ _ h => h) (by rfl) ?_ (by assumption) ?_); rotate_left; (focus (intro w hSw; (try dsimp only at hSw); go_simp; (try with_reducible rfl); done)); (try simp only [Act.put, List.setIfInBounds_toArray, List.set_cons_zero, List.set_cons_succ])
        (refine takeH (i := 24) (v := ?_) (by decide +kernel) (by decide +kernel) (by kernel_rfl) (by rfl) (by exact fun _ _ _ h => h) (by rfl) ?_ (by assumption) ?_); rotate_left; (focus (intro w hSw; (try dsimp only at hSw); go_simp; (try with_reducible rfl); done)); (try simp only [Act.put, List.setIfInBounds_toArray, List.set_cons_zero, List.set_cons_succ])
        (refine takeH (i := 25) (v := ?_) (by decide +kernel) (by decide +kernel) (by kernel_rfl) (by rfl) (by exact fun _ _ _ h => h) (by rfl) ?_ (by assumption) ?_); rotate_left; (focus (intro w hSw; (try dsimp only at hSw); go_simp; (try with_reducible rfl); done)); (try simp only [Act.put, List.setIfInBounds_toArray, List.set_cons_zero, List.set_cons_succ])
        (refine takeH (i := 26) (v := ?_) (by decide +kernel) (by decide +kernel) (by kernel_rfl) (by rfl) (by exact fun _ _ _ h => h) (by rfl) ?_ (by assumption) ?_); rotate_left; (focus (intro w hSw; (try dsimp only at hSw); go_simp; (try with_reducible rfl); done)); (try simp only [Act.put, List.setIfInBounds_toArray, List.set_cons_zero, List.set_cons_succ])
        (refine takeH (i := 27) (v := ?_) (by decide +kernel) (by decide +kernel) (by kernel_rfl) (by rfl) (by exact fun _ _ _ h => h) (by rfl) ?_ (by assumption) ?_); rotate_left; (focus (intro w hSw; (try dsimp only at hSw); go_simp; (try with_reducible rfl); done)); (try simp only [Act.put, List.setIfInBounds_toArray, List.set_cons_zero, List.set_cons_succ])
        (refine takeH (i := 28) (v := ?_) (by decide +kernel) (by decide +kernel) (by kernel_rfl) (by rfl) (by exact fun _ _ _ h => h) (by rfl) ?_ (by assumption) ?_); rotate_left; (focus (intro w hSw; (try dsimp only at hSw); go_simp; (try with_reducible rfl); done)); (try simp only [Act.put, List.setIfInBounds_toArray, List.set_cons_zero, List.set_cons_succ])
        (refine takeH (i := 29) (v := ?_) (by decide +kernel) (by decide +kernel) (by kernel_rfl) (by rfl) (by exact fun _ _ _ h => h) (by rfl) ?_ (by assumption) ?_); rotate_left; (focus (intro w hSw; (try dsimp only at hSw); go_simp; (try with_reducible rfl); done)); (try simp only [Act.put, List.setIfInBounds_toArray, List.set_cons_zero, List.set_cons_succ])
        (refine takeH (i := 30) (v := ?_) (by decide +kernel) (by decide +kernel) (by kernel_rfl) (by rfl) (by exact fun _ _ _ h => h) (by rfl) ?_ (by assumption) ?_); rotate_left; (focus (intro w hSw; (try dsimp only at hSw); go_simp; (try with_reducible rfl); done)); (try simp only [Act.put, List.setIfInBounds_toArray, List.set_cons_zero, List.set_cons_succ])
        (refine takeH (i := 31) (v := ?_) (by decide +kernel) (by decide +kernel) (by kernel_rfl) (by rfl) (by exact fun _ _ _ h => h) (by rfl) ?_ (by assumption) ?_); rotate_left; (focus (intro w hSw; (try dsimp only at hSw); go_simp; (try with_reducible rfl); done)); (try simp only [Act.put, List.setIfInBounds_toArray, List.set_cons_zero, List.set_cons_succ])
        (refine takeH (i := 32) (v := ?_) (by decide +kernel) (by decide +kernel) (by kernel_rfl) (by rfl) (by exact fun _ _ _ h => h) (by rfl) ?_ (by assumption) ?_); rotate_left; (focus (intro w hSw; (try dsimp only at hSw); go_simp; (try with_reducible rfl); done)); (try simp only [Act.put, List.setIfInBounds_toArray, List.set_cons_zero, List.set_cons_succ])
        (refine takeH (i := 33) (v := ?_) (by decide +kernel) (by decide +kernel) (by kernel_rfl) (by rfl) (by exact fun _ _ _ h => h) (by rfl) ?_ (by assumption) ?_); rotate_left; (focus (intro w hSw; (try dsimp only at hSw); go_simp; (try with_reducible rfl); done)); (try simp only [Act.put, List.setIfInBounds_toArray, List.set_cons_zero, List.set_cons_succ])
        (refine takeH (i := 34) (v := ?_) (by decide +kernel) (by decide +kernel) (by kernel_rfl) (by rfl) (by exact fun _ _ _ h => h) (by rfl) ?_ (by assumption) ?_); rotate_left; (focus (intro w hSw; (try dsimp only at hSw); go_simp; (try with_reducible rfl); done)); (try simp only [Act.put, List.setIfInBounds_toArray, List.set_cons_zero, List.set_cons_succ])
        (refine takeH (i := 35) (v := ?_) (by decide +kernel) (by decide +kernel) (by kernel_rfl) (by rfl) (by exact fun _ _ _ h => h) (by rfl) ?_ (by assumption) ?_); rotate_left; (focus (intro w hSw; (try dsimp only at hSw); go_simp; (try with_reducible rfl); done)); (try simp only [Act.put, List.setIfInBounds_toArray, List.set_cons_zero, List.set_cons_succ])
        refine nextH (i := 36) (by decide +kernel) (by rfl) (by rfl) (fun K hK => ?_)
        (go_simp; go_at_call 60; (refine (C6.out _ ⟨(F12.at 3 rfl).1, (F12.at 2 rfl).1⟩ ⟨(F12.at 6 rfl).1, (F12.at 5 rfl).1⟩).mono ?_); (rintro e w13 ⟨rfl, hb13⟩); (have hc13 := (bcell hb13).1); (have S13 := Lib.hid (And.intro ((hc13 _ _ (Nat.lt_of_lt_of_le zr y12)).trans S12.out.1) (And.intro ((hc13 _ _ (Nat.lt_of_lt_of_le zr y12)).trans S12.out.2.1) (And.intro ((hc13 _ _ (Nat.lt_of_lt_of_le zr y12)).trans S12.out.2.2.1) (And.intro ((hc13 _ _ (Nat.lt_of_lt_of_le zr y12)).trans S12.out.2.2.2.1) (And.intro ((hc13 _ _ (Nat.lt_of_lt_of_le zr y12)).trans S12.out.2.2.2.2.1) (And.intro ((hc13 _ _ (Nat.lt_of_lt_of_le zr y12)).trans S12.out.2.2.2.2.2.1) (And.intro ((hc13 _ _ (Nat.lt_of_lt_of_le zr y12)).trans S12.out.2.2.2.2.2.2.1) (And.intro ((hc13 _ _ (Nat.lt_of_lt_of_le zr y12)).trans S12.out.2.2.2.2.2.2.2.1) (And.intro ((hc13 _ _ (Nat.lt_of_lt_of_le zr y12)).trans S12.out.2.2.2.2.2.2.2.2.1) (And.intro ((hc13 _ _ (Nat.lt_of_lt_of_le zp y12)).trans S12.out.2.2.2.2.2.2.2.2.2.1) (And.intro ((hc13 _ _ (Nat.lt_of_lt_of_le zp y12)).trans S12.out.2.2.2.2.2.2.2.2.2.2.1) (And.intro ((hc13 _ _ (Nat.lt_of_lt_of_le zp y12)).trans S12.out.2.2.2.2.2.2.2.2.2.2.2.1) (And.intro ((hc13 _ _ (Nat.lt_of_lt_of_le zl y12)).trans S12.out.2.2.2.2.2.2.2.2.2.2.2.2.1) (And.intro ((hc13 _ _ (Nat.lt_of_lt_of_le zl y12)).trans S12.out.2.2.2.2.2.2.2.2.2.2.2.2.2.1) (And.intro ((hc13 _ _ (Nat.lt_of_lt_of_le zl y12)).trans S12.out.2.2.2.2.2.2.2.2.2.2.2.2.2.2.1) (And.intro ((hc13 _ _ (Nat.lt_of_lt_of_le zl y12)).trans S12.out.2.2.2.2.2.2.2.2.2.2.2.2.2.2.2.1) (And.intro ((hc13 _ _ (Nat.lt_of_lt_of_le zz y12)).trans S12.out.2.2.2.2.2.2.2.2.2.2.2.2.2.2.2.2.1) (And.intro ((hc13 _ _ (Nat.lt_of_lt_of_le zz y12)).trans S12.out.2.2.2.2.2.2.2.2.2.2.2.2.2.2.2.2.2.1) (And.intro ((hc13 _ _ (Nat.lt_of_lt_of_le zz y12)).trans S12.out.2.2.2.2.2.2.2.2.2.2.2.2.2.2.2.2.2.2.1) (And.intro ((hc13 _ _ (Nat.lt_of_lt_of_le zz y12)).trans S12.out.2.2.2.2.2.2.2.2.2.2.2.2.2.2.2.2.2.2.2.1) ((hc13 _ _ (Nat.lt_of_lt_of_le hbt y12)).trans S12.out.2.2.2.2.2.2.2.2.2.2.2.2.2.2.2.2.2.2.2.2)))))))))))))))))))))); (have F13 := F12.step hb13); (have K13 := Lib.hid (below_next K12.out hb13)); clear hb13 hc13)
        refine hK.out _ _ ?_ (fun hHeld' => ?_)
        (focus ((try dsimp only); (first | done | ((first | (with_reducible exact S13.out) | (with_reducible exact S12.out) | (with_reducible exact S11.out) | (with_reducible exact S10.out) | (with_reducible exact S9.out)); done))))
        clear hK K hHeld
        have hHeld := hHeld'
        clear hHeld'
        (try simp only [Act.put, List.setIfInBounds_toArray, List.set_cons_zero, List.set_cons_succ])
        (refine takeH (i := 37) (v := ?_) (by decide +kernel) (by decide +kernel) (by kernel_rfl) (by rfl) (by exact fun _ _ _ h => h) (by rfl) ?_ (by assumption) ?_); rotate_left; (focus (intro w hSw; (try dsimp only at hSw); go_simp; (try with_reducible rfl); done)); (try simp only [Act.put, List.setIfInBounds_toArray, List.set_cons_zero, List.set_cons_succ])
        (refine takeH (i := 38) (v := ?_) (by decide +kernel) (by decide +kernel) (by kernel_rfl) (by rfl) (by exact fun _ _ _ h => h) (by rfl) ?_ (by assumption) ?_); rotate_left; (focus (intro w hSw; (try dsimp only at hSw); go_simp; (try with_reducible rfl); done)); (try simp only [Act.put, List.setIfInBounds_toArray, List.set_cons_zero, List.set_cons_succ])
        (refine takeH (i := 39) (v := ?_) (by decide +kernel) (by decide +kernel) (by kernel_rfl) (by rfl) (by exact fun _ _ _ h => h) (by rfl) ?_ (by assumption) ?_); rotate_left; (focus (intro w hSw; (try dsimp only at hSw); go_simp; (try with_reducible rfl); done)); (try simp only [Act.put, List.setIfInBounds_toArray, List.set_cons_zero, List.set_cons_succ])
        refine wpAnyH_done (by decide +kernel) ?_ _
        clear hHeld hl0 hkki wrk hrl c0 c1 c2 c3 c4 c5 c6 c7 c8 d0 d1 d2 l0 l1 l2 l3 z0 z1 z2 z3 kt zr zp zl zz S9 S10 S11 S12 F10 F11 F9 F6 K10 K11 y10 y11 y12 S13 F12 K12
        have CW := Lib.hid ((R.boxc (F13.at 8 rfl)).1)
        have ZW := Lib.hid (⟨F13.at 1 rfl 1 _ rfl, by have := F13.at 7 rfl 1 _ rfl; simpa using this, by have := F13.at 7 rfl 2 _ rfl; simpa using this⟩ : w13.cell? ⟨w5.heap.size, 1, none⟩ = some (.slice D.sa 2 D.sc) ∧ w13.cell? ⟨w2.heap.size + 1, 1, none⟩ = some (.slice SA 2 SC) ∧ w13.cell? ⟨w2.heap.size + 1, 2, none⟩ = some (.int .i64 1))
        obtain ⟨bz, oz, hza, hbz, kz0, kz1⟩ := two_at ((F13.at 2 rfl).1 : Ints w13 D.sa [pu, zv])
        obtain ⟨bs_, os_, hsa, hbs, ks0, ks1⟩ := two_at ((F13.at 9 rfl).1 : Ints w13 SA [pu, pv])
        have KZ := Lib.hid (And.intro kz0 (And.intro kz1 (And.intro ks0 ks1)))
        rw [hza, hsa] at ZW
        clear kz0 kz1 ks0 ks1
        go_wp2
        go_loopw [14, 15] (fun sv iv wr => ∃ (j m : Nat), iv = .int .i64 j ∧ sv = .int .i64 (cntS (tl.take j)) ∧ j ≤ tl.length ∧ Hid (wr = w13.drewN m)) (fun _ iv _ => tl.length - (intOf iv).toNat)
        case atStart => exact ⟨0, 0, rfl, rfl, Nat.zero_le _, Lib.hid rfl⟩
        case round =>
          obtain ⟨j, m, rfl, rfl, hj, HWR⟩ := hrel
          have HTR : Hid (Ints wr (some ⟨bt, ot, none⟩) tl) := by unfold Hid; rw [HWR.out]; exact HROW.out _ (K13.out.trans (below_draws _ _ m))
          by_cases hlt : j < tl.length
          · obtain ⟨b9, o9, h9, hb9, k9⟩ := Ints.at HTR.out hlt
            cases h9
            have hq := HALL.out tl[j] (List.getElem_mem hlt)
            have HCN := Lib.hid (cntS_next hlt)
            have hcb := cntS_bd (tl.take j)
            have hcl : (tl.take j).length ≤ 100000 := by simp; omega
            have hcb2 : 0 ≤ cntS (tl.take j) ∧ cntS (tl.take j) ≤ 100000 := by omega
            obtain ⟨q, hqq⟩ : ∃ q, q = tl[j] := ⟨_, rfl⟩
            rw [← hqq] at k9 hq HCN
            clear hqq hcb hcl
            have c0 : wr.cell? ⟨w2.heap.size, 0, none⟩ = some (.int .i64 r.pits) := by rw [HWR.out, World.cell?_drewN]; exact CW.out
            have q1 : decide (q < -1) = false := by simp; omega
            have q2 : decide (2 * r.pits ≤ q) = false := by simp; omega
            have wr1 : IntKind.i64.wrap (2 * r.pits) = 2 * r.pits := IntWalk.i64_in _ (by omega)
            go_wp2
            go_quiet (fail)
            clear wr1
            by_cases hq1 : q = -1
            · have q3 : (q == -1) = true := by simpa using hq1
              have HQ1 := Lib.hid hq1
              clear hq1
              go_wp2
              go_roundw
              case rel => exact ⟨j + 1, _, by go_num, by rw [HCN.out, if_pos HQ1.out], by omega, by unfold Hid; rw [HWR.out]; exact World.drewN_drewN ..⟩
              case measure => simp [intOf]; omega
            · have q3 : (q == -1) = false := by simpa using hq1
              have HQ1 := Lib.hid hq1
              clear hq1
              go_wp2
              go_roundw
              case rel => exact ⟨j + 1, _, by go_num, by rw [HCN.out, if_neg HQ1.out, Int.add_zero], by omega, by unfold Hid; rw [HWR.out]; exact World.drewN_drewN ..⟩
              case measure => simp [intOf]; omega
        
          · obtain rfl : j = tl.length := by omega
            have S24 : Hid (wr.drew.cell? ⟨w5.heap.size, 1, none⟩ = some (.slice (some ⟨bz, oz, none⟩) 2 D.sc) ∧ wr.drew.cell? ⟨w2.heap.size + 1, 1, none⟩ = some (.slice (some ⟨bs_, os_, none⟩) 2 SC) ∧ wr.drew.cell? ⟨w2.heap.size + 1, 2, none⟩ = some (.int .i64 1) ∧ wr.drew.cell? ⟨bz, oz, none⟩ = some (.int .i64 pu) ∧ wr.drew.cell? ⟨bz, oz + 1, none⟩ = some (.int .i64 zv) ∧ wr.drew.cell? ⟨bs_, os_, none⟩ = some (.int .i64 pu) ∧ wr.drew.cell? ⟨bs_, os_ + 1, none⟩ = some (.int .i64 pv)) := by
              unfold Hid
              rw [HWR.out]
              exact ⟨ZW.out.1, ZW.out.2.1, ZW.out.2.2, KZ.out.1, KZ.out.2.1, KZ.out.2.2.1, KZ.out.2.2.2⟩
            have q1 : (zv - pv == cntS tl) = true := by rw [HOWN.out]; simp
            have wr1 : IntKind.i64.wrap 0 = 0 := IntWalk.i64_in _ (by omega)
            have wr2 : IntKind.i64.wrap (zv - pv) = zv - pv := IntWalk.i64_in _ (by omega)
            have hB : Hid (Below w2.heap.size w2 wr) := by unfold Hid; rw [HWR.out]; exact (F13.drawn m).below
            go_upto_region 24 with fail
            refine heldH (S := fun W => W.cell? ⟨w5.heap.size, 1, none⟩ = some (.slice (some ⟨bz, oz, none⟩) 2 D.sc) ∧ W.cell? ⟨w2.heap.size + 1, 1, none⟩ = some (.slice (some ⟨bs_, os_, none⟩) 2 SC) ∧ W.cell? ⟨w2.heap.size + 1, 2, none⟩ = some (.int .i64 1) ∧ W.cell? ⟨bz, oz, none⟩ = some (.int .i64 pu) ∧ W.cell? ⟨bz, oz + 1, none⟩ = some (.int .i64 zv) ∧ W.cell? ⟨bs_, os_, none⟩ = some (.int .i64 pu) ∧ W.cell? ⟨bs_, os_ + 1, none⟩ = some (.int .i64 pv)) (n := 33) (listed := #[false, false, false, false, false, false, false, false, false, false, false, false, false, false, false, false, false, false, false, false, false, false, false, false, false, false, false, false, false, false, false, false, false]) (by kernel_rfl) (by rfl) (by rfl) ?_ (fun hHeld => ?_)
            (focus ((try dsimp only); (first | done | ((first | (with_reducible exact S24.out) | exact S24.out); done))))
            (refine takeH (i := 0) (v := ?_) (by decide +kernel) (by decide +kernel) (by kernel_rfl) (by rfl) (by exact fun _ _ _ h => h) (by rfl) ?_ (by assumption) ?_); rotate_left; (focus (intro w hSw; (try dsimp only at hSw); go_simp; (try with_reducible rfl); done)); (try simp only [Act.put, List.setIfInBounds_toArray, List.set_cons_zero, List.set_cons_succ])
            (refine takeH (i := 1) (v := ?_) (by decide +kernel) (by decide +kernel) (by kernel_rfl) (by rfl) (by exact fun _ _ _ h => h) (by rfl) ?_ (by assumption) ?_); rotate_left; (focus (intro w hSw; (try dsimp only at hSw); go_simp; (try with_reducible rfl); done)); (try simp only [Act.put, List.setIfInBounds_toArray, List.set_cons_zero, List.set_cons_succ])
            (refine takeH (i := 2) (v := ?_) (by decide +kernel) (by decide +kernel) (by kernel_rfl) (by rfl) (by exact fun _ _ _ h => h) (by rfl) ?_ (by assumption) ?_); rotate_left; (focus (intro w hSw; (try dsimp only at hSw); go_simp; (try with_reducible rfl); done)); (try simp only [Act.put, List.setIfInBounds_toArray, List.set_cons_zero, List.set_cons_succ])
            (refine takeH (i := 3) (v := ?_) (by decide +kernel) (by decide +kernel) (by kernel_rfl) (by rfl) (by exact fun _ _ _ h => h) (by rfl) ?_ (by assumption) ?_); rotate_left; (focus (intro w hSw; (try dsimp only at hSw); go_simp; (try with_reducible rfl); done)); (try simp only [Act.put, List.setIfInBounds_toArray, List.set_cons_zero, List.set_cons_succ])
            (refine takeH (i := 4) (v := ?_) (by decide +kernel) (by decide +kernel) (by kernel_rfl) (by rfl) (by exact fun _ _ _ h => h) (by rfl) ?_ (by assumption) ?_); rotate_left; (focus (intro w hSw; (try dsimp only at hSw); go_simp; (try with_reducible rfl); done)); (try simp only [Act.put, List.setIfInBounds_toArray, List.set_cons_zero, List.set_cons_succ])
            (refine takeH (i := 5) (v := ?_) (by decide +kernel) (by decide +kernel) (by kernel_rfl) (by rfl) (by exact fun _ _ _ h => h) (by rfl) ?_ (by assumption) ?_); rotate_left; (focus (intro w hSw; (try dsimp only at hSw); go_simp; (try with_reducible rfl); done)); (try simp only [Act.put, List.setIfInBounds_toArray, List.set_cons_zero, List.set_cons_succ])
            (refine takeH (i := 6) (v := ?_) (by decide +kernel) (by decide +kernel) (by kernel_rfl) (by rfl) (by exact fun _ _ _ h => h) (by rfl) ?_ (by assumption) ?_); rotate_left; (focus (intro w hSw; (try dsimp only at hSw); go_simp; (try with_reducible rfl); done)); (try simp only [Act.put, List.setIfInBounds_toArray, List.set_cons_zero, List.set_cons_succ])
            (refine takeH (i := 7) (v := ?_) (by decide +kernel) (by decide +kernel) (by kernel_rfl) (by rfl) (by exact fun _ _ _ h => h) (by rfl) ?_ (by assumption) ?_); rotate_left; (focus (intro w hSw; (try dsimp only at hSw); go_simp; (try with_reducible rfl); done)); (try simp only [Act.put, List.setIfInBounds_toArray, List.set_cons_zero, List.set_cons_succ])
            (refine takeH (i := 8) (v := ?_) (by decide +kernel) (by decide +kernel) (by kernel_rfl) (by rfl) (by exact fun _ _ _ h => h) (by rfl) ?_ (by assumption) ?_); rotate_left; (focus (intro w hSw; (try dsimp only at hSw); go_simp; (try with_reducible rfl); done)); (try simp only [Act.put, List.setIfInBounds_toArray, List.set_cons_zero, List.set_cons_succ])
            (refine takeH (i := 9) (v := ?_) (by decide +kernel) (by decide +kernel) (by kernel_rfl) (by rfl) (by exact fun _ _ _ h => h) (by rfl) ?_ (by assumption) ?_); rotate_left; (focus (intro w hSw; (try dsimp only at hSw); go_simp; (try with_reducible rfl); done)); (try simp only [Act.put, List.setIfInBounds_toArray, List.set_cons_zero, List.set_cons_succ])
            (refine takeH (i := 10) (v := ?_) (by decide +kernel) (by decide +kernel) (by kernel_rfl) (by rfl) (by exact fun _ _ _ h => h) (by rfl) ?_ (by assumption) ?_); rotate_left; (focus (intro w hSw; (try dsimp only at hSw); go_simp; (try with_reducible rfl); done)); (try simp only [Act.put, List.setIfInBounds_toArray, List.set_cons_zero, List.set_cons_succ])
            (refine takeH (i := 11) (v := ?_) (by decide +kernel) (by decide +kernel) (by kernel_rfl) (by rfl) (by exact fun _ _ _ h => h) (by rfl) ?_ (by assumption) ?_); rotate_left; (focus (intro w hSw; (try dsimp only at hSw); go_simp; (try with_reducible rfl); done)); (try simp only [Act.put, List.setIfInBounds_toArray, List.set_cons_zero, List.set_cons_succ])
            (refine takeH (i := 12) (v := ?_) (by decide +kernel) (by decide +kernel) (by kernel_rfl) (by rfl) (by exact fun _ _ _ h => h) (by rfl) ?_ (by assumption) ?_); rotate_left; (focus (intro w hSw; (try dsimp only at hSw); go_simp; (try with_reducible rfl); done)); (try simp only [Act.put, List.setIfInBounds_toArray, List.set_cons_zero, List.set_cons_succ])
            (refine takeH (i := 13) (v := ?_) (by decide +kernel) (by decide +kernel) (by kernel_rfl) (by rfl) (by exact fun _ _ _ h => h) (by rfl) ?_ (by assumption) ?_); rotate_left; (focus (intro w hSw; (try dsimp only at hSw); go_simp; (try with_reducible rfl); done)); (try simp only [Act.put, List.setIfInBounds_toArray, List.set_cons_zero, List.set_cons_succ])
            (refine takeH (i := 14) (v := ?_) (by decide +kernel) (by decide +kernel) (by kernel_rfl) (by rfl) (by exact fun _ _ _ h => h) (by rfl) ?_ (by assumption) ?_); rotate_left; (focus (intro w hSw; (try dsimp only at hSw); go_simp; (try with_reducible rfl); done)); (try simp only [Act.put, List.setIfInBounds_toArray, List.set_cons_zero, List.set_cons_succ])
            (refine takeH (i := 15) (v := ?_) (by decide +kernel) (by decide +kernel) (by kernel_rfl) (by rfl) (by exact fun _ _ _ h => h) (by rfl) ?_ (by assumption) ?_); rotate_left; (focus (intro w hSw; (try dsimp only at hSw); go_simp; (try with_reducible rfl); done)); (try simp only [Act.put, List.setIfInBounds_toArray, List.set_cons_zero, List.set_cons_succ])
            (refine takeH (i := 16) (v := ?_) (by decide +kernel) (by decide +kernel) (by kernel_rfl) (by rfl) (by exact fun _ _ _ h => h) (by rfl) ?_ (by assumption) ?_); rotate_left; (focus (intro w hSw; (try dsimp only at hSw); go_simp; (try with_reducible rfl); done)); (try simp only [Act.put, List.setIfInBounds_toArray, List.set_cons_zero, List.set_cons_succ])
            (refine takeH (i := 17) (v := ?_) (by decide +kernel) (by decide +kernel) (by kernel_rfl) (by rfl) (by exact fun _ _ _ h => h) (by rfl) ?_ (by assumption) ?_); rotate_left; (focus (intro w hSw; (try dsimp only at hSw); go_simp; (try with_reducible rfl); done)); (try simp only [Act.put, List.setIfInBounds_toArray, List.set_cons_zero, List.set_cons_succ])
            (refine takeH (i := 18) (v := ?_) (by decide +kernel) (by decide +kernel) (by kernel_rfl) (by rfl) (by exact fun _ _ _ h => h) (by rfl) ?_ (by assumption) ?_); rotate_left; (focus (intro w hSw; (try dsimp only at hSw); go_simp; (try with_reducible rfl); done)); (try simp only [Act.put, List.setIfInBounds_toArray, List.set_cons_zero, List.set_cons_succ])
            (refine takeH (i := 19) (v := ?_) (by decide +kernel) (by decide +kernel) (by kernel_rfl) (by rfl) (by exact fun _ _ _ h => h) (by rfl) ?_ (by assumption) ?_); rotate_left; (focus (intro w hSw; (try dsimp only at hSw); go_simp; (try with_reducible rfl); done)); (try simp only [Act.put, List.setIfInBounds_toArray, List.set_cons_zero, List.set_cons_succ])
            (refine takeH (i := 20) (v := ?_) (by decide +kernel) (by decide +kernel) (by kernel_rfl) (by rfl) (by exact fun _ _ _ h => h) (by rfl) ?_ (by assumption) ?_); rotate_left; (focus (intro w hSw; (try dsimp only at hSw); go_simp; (try with_reducible rfl); done)); (try simp only [Act.put, List.setIfInBounds_toArray, List.set_cons_zero, List.set_cons_succ])
            (refine takeH (i := 21) (v := ?_) (by decide +kernel) (by decide +kernel) (by kernel_rfl) (by rfl) (by exact fun _ _ _ h => h) (by rfl) ?_ (by assumption) ?_); rotate_left; (focus (intro w hSw; (try dsimp only at hSw); go_simp; (try with_reducible rfl); done)); (try simp only [Act.put, List.setIfInBounds_toArray, List.set_cons_zero, List.set_cons_succ])
            (refine takeH (i := 22) (v := ?_) (by decide +kernel) (by decide +kernel) (by kernel_rfl) (by rfl) (by exact fun _ _ _ h => h) (by rfl) ?_ (by assumption) ?_); rotate_left; (focus (intro w hSw; (try dsimp only at hSw); go_simp; (try with_reducible rfl); done)); (try simp only [Act.put, List.setIfInBounds_toArray, List.set_cons_zero, List.set_cons_succ])
            (refine takeH (i := 23) (v := ?_) (by decide +kernel) (by decide +kernel) (by kernel_rfl) (by rfl) (by exact fun _ _ _ h => h) (by rfl) ?_ (by assumption) ?_); rotate_left; (focus (intro w hSw; (try dsimp only at hSw); go_simp; (try with_reducible rfl); done)); (try simp only [Act.put, List.setIfInBounds_toArray, List.set_cons_zero, List.set_cons_succ])
            (refine takeH (i := 24) (v := ?_) (by decide +kernel) (by decide +kernel) (by kernel_rfl) (by rfl) (by exact fun _ _ _ h => h) (by rfl) ?_ (by assumption) ?_); rotate_left; (focus (intro w hSw; (try dsimp only at hSw); go_simp; (try with_reducible rfl); done)); (try simp only [Act.put, List.setIfInBounds_toArray, List.set_cons_zero, List.set_cons_succ])
            (refine takeH (i := 25) (v := ?_) (by decide +kernel) (by decide +kernel) (by kernel_rfl) (by rfl) (by exact fun _ _ _ h => h) (by rfl) ?_ (by assumption) ?_); rotate_left; (focus (intro w hSw; (try dsimp only at hSw); go_simp; (try with_reducible rfl); done)); (try simp only [Act.put, List.setIfInBounds_toArray, List.set_cons_zero, List.set_cons_succ])
            (refine takeH (i := 26) (v := ?_) (by decide +kernel) (by decide +kernel) (by kernel_rfl) (by rfl) (by exact fun _ _ _ h => h) (by rfl) ?_ (by assumption) ?_); rotate_left; (focus (intro w hSw; (try dsimp only at hSw); go_simp; (try with_reducible rfl); done)); (try simp only [Act.put, List.setIfInBounds_toArray, List.set_cons_zero, List.set_cons_succ])
            (refine takeH (i := 27) (v := ?_) (by decide +kernel) (by decide +kernel) (by kernel_rfl) (by rfl) (by exact fun _ _ _ h => h) (by rfl) ?_ (by assumption) ?_); rotate_left; (focus (intro w hSw; (try dsimp only at hSw); go_simp; (try with_reducible rfl); done)); (try simp only [Act.put, List.setIfInBounds_toArray, List.set_cons_zero, List.set_cons_succ])
            (refine takeH (i := 28) (v := ?_) (by decide +kernel) (by decide +kernel) (by kernel_rfl) (by rfl) (by exact fun _ _ _ h => h) (by rfl) ?_ (by assumption) ?_); rotate_left; (focus (intro w hSw; (try dsimp only at hSw); go_simp; (try with_reducible rfl); done)); (try simp only [Act.put, List.setIfInBounds_toArray, List.set_cons_zero, List.set_cons_succ])
            (refine takeH (i := 29) (v := ?_) (by decide +kernel) (by decide +kernel) (by kernel_rfl) (by rfl) (by exact fun _ _ _ h => h) (by rfl) ?_ (by assumption) ?_); rotate_left; (focus (intro w hSw; (try dsimp only at hSw); go_simp; (try with_reducible rfl); done)); (try simp only [Act.put, List.setIfInBounds_toArray, List.set_cons_zero, List.set_cons_succ])
            (refine takeH (i := 30) (v := ?_) (by decide +kernel) (by decide +kernel) (by kernel_rfl) (by rfl) (by exact fun _ _ _ h => h) (by rfl) ?_ (by assumption) ?_); rotate_left; (focus (intro w hSw; (try dsimp only at hSw); go_simp; (try with_reducible rfl); done)); (try simp only [Act.put, List.setIfInBounds_toArray, List.set_cons_zero, List.set_cons_succ])
            (refine takeH (i := 31) (v := ?_) (by decide +kernel) (by decide +kernel) (by kernel_rfl) (by rfl) (by exact fun _ _ _ h => h) (by rfl) ?_ (by assumption) ?_); rotate_left; (focus (intro w hSw; (try dsimp only at hSw); go_simp; (try with_reducible rfl); done)); (try simp only [Act.put, List.setIfInBounds_toArray, List.set_cons_zero, List.set_cons_succ])
            (refine takeH (i := 32) (v := ?_) (by decide +kernel) (by decide +kernel) (by kernel_rfl) (by rfl) (by exact fun _ _ _ h => h) (by rfl) ?_ (by assumption) ?_); rotate_left; (focus (intro w hSw; (try dsimp only at hSw); go_simp; (try with_reducible rfl); done)); (try simp only [Act.put, List.setIfInBounds_toArray, List.set_cons_zero, List.set_cons_succ])
            refine wpAnyH_done (by decide +kernel) ?_ _
            clear hHeld wr1 wr2
            go_wp2
            go_ret
            exact ⟨rfl, HW.out _ hB.out.drew⟩

set_option maxRecDepth 100000 in
theorem contract (H : Type) (enc : TypeId × Value → H) (W : World) (base : Nat) (args : Array Value) (ds gs : List (DataW H)) (before : List MemPlace)
    (hval : ∀ (j : Nat) t v, Try.f7.params[j]? = some t → args[j]? = some v → Value.okWide Try.prog W .any base t v)
    (hW : DataW.Whole enc Try.prog Try.f7.params.toList Rows.fnSowingSpec.vars false W args.toList ds gs before) :
    Calls Try.prog 7 args W fun e W' => ∃ v, e = .returned v ∧ Rows.fnSowingSpec.post enc Try.prog Try.f7 false true false false W args v W' := by
  have hW' := hW
  obtain ⟨p, q, hA0, hV, rfl, hfz, hnd⟩ := hW
  have hA : DataW.TrodAll enc Try.prog W 0 (fun _ => true) true Try.f7.params.toList args.toList ds p := hA0
  rw [Try.params7] at hA hval
  obtain ⟨v0, vs0, d0, ds0, p0, q0, hargs, rfl, rfl, h0, r0⟩ := trodAll_cons hA
  obtain ⟨v1, vs1, d1, ds1, p1, q1, rfl, rfl, rfl, h1, r1⟩ := trodAll_cons r0
  obtain ⟨rfl, rfl, rfl⟩ := trodAll_nil r1
  obtain rfl : args = #[v0, v1] := by cases args; simp_all
  obtain ⟨ba0, bc0, bs0, rfl, w0⟩ := arg_bytes (hval 0 22 v0 rfl rfl) h0
  obtain ⟨ba1, bc1, bs1, rfl, w1⟩ := arg_bytes (hval 1 22 v1 rfl rfl) h1
  refine (walk ba0 ba1 bc0 bc1 bs0 bs1 W w0.2.1 w1.2.1 w0.2.2.2 w1.2.2.2).mono fun e W' ⟨he, hb⟩ => ?_
  subst he
  exact ⟨_, rfl, law_post hW' hb rfl rfl (by kernel_rfl) rfl⟩

set_option maxRecDepth 100000 in
theorem lifted (os : Os) (started : os.Started) (H : Type) (enc : TypeId × Value → H) :
    ReturnsInHanded {} Try.checked os 7 .any (Rows.fnSowingSpec.pre6 enc Try.prog Try.f7 Rows.fnSowingRow.domain false) (Rows.fnSowingSpec.post enc Try.prog Try.f7 false true false false) := by
  refine returnsInHanded_of_change (C := Try.checked) (s := Rows.fnSowingSpec) own started (by kernel_rfl) Try.func7
    (ChangeSpec.witness6 (enc := enc) (C := Try.checked) (s := Rows.fnSowingSpec) false ⟨#[], #[.slice none 0 0, .slice none 0 0], []⟩ 8 (by kernel_rfl) (by kernel_rfl) (by kernel_rfl) (by kernel_rfl)) ?_
  intro W base args ds gs before hval hW _ _
  exact contract H enc W base args ds gs before hval hW

theorem proved : Rows.FnSowingSaid :=
  OpenClaim.holds_of_wide 7 Try.f7 rfl rfl rfl rfl rfl rfl rfl ⟨rfl, rfl, rfl, rfl, rfl⟩ rfl rfl rfl rfl rfl (by kernel_rfl) Try.func7 (by kernel_rfl)
    (of_decide_eq_true (by kernel_rfl)) (by unfold Func.isWrapper; first | (rw [if_pos (by decide +kernel)]; kernel_rfl) | (rw [if_neg (by decide +kernel)]; exact ⟨rfl, rfl⟩))
    (fun os started H enc _ => lifted os started H enc)
end Go.Proofs.Ytbjdfgfebepacaa.lSowing
