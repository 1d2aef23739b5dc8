/- PosX: a position's text. Each contract holds for every argument, under the premises that it states. -/
import Derived.Test.YtenjffoboiohnaaDoorPosR
namespace Go.Proofs.YtenjffoboiohnaaDoor
set_option linter.unusedSimpArgs false
set_option linter.unusedVariables false
set_option linter.unnecessarySimpa false
open Go.RowKit Go.ChangeShapes Go.WideShapes Go.ChangeAt Go.Joins

theorem ints_front {w : World} {a : Option Addr} {xs ys : List Int} (h : Ints w a (xs ++ ys)) : Ints w a xs := fun j v hv => h j v (by rw [List.map_append]; exact getElem?_front hv)
theorem ints_back {w : World} {b o : Nat} {xs ys : List Int} (h : Ints w (some ⟨b, o, none⟩) (xs ++ ys)) : Ints w (some ⟨b, o + xs.length, none⟩) ys := fun j v hv => by
  obtain ⟨b', o', e, hc⟩ := h (xs.length + j) v (by rw [List.map_append, List.getElem?_append_right (by simp)]; simpa using hv)
  cases e
  exact ⟨b, o + xs.length, rfl, by rw [Nat.add_assoc]; exact hc⟩
def posT (xs ys ss : List Int) (pl : Int) : List UInt8 := Lib.itoa pl ++ [32] ++ jc xs ++ [47] ++ jc ys ++ [32] ++ jc ss

set_option maxRecDepth 100000 in
set_option maxHeartbeats 16000000 in
theorem PositionText_c (r : R) (zs xs ys : List Int) (s0 s1 pl : Int) (hz : zs = xs ++ ys) (hok : P.ok ⟨zs, [s0, s1], pl⟩ r = true) (hx : (xs.length : Int) = r.pits) (hy : ys.length = xs.length) (h1 : 1 ≤ xs.length) (hm : xs.length ≤ 8) (pa sa : Option Addr) (pc sc : Nat) (w : World) (h : PRow w ⟨zs, [s0, s1], pl⟩ pa sa) (hc : zs.length ≤ pc) (hcm : pc ≤ maxLen) :
    Calls Tryd.prog 12 #[r.val, P.val ⟨zs, [s0, s1], pl⟩ pa pc sa sc] w fun e w' => e = .returned (.string ⟨(posT xs ys [s0, s1] pl).toArray⟩) ∧ Below w.heap.size w w' := by
  have hlz : zs.length = xs.length + ys.length := by rw [hz]; simp
  obtain ⟨hb, ⟨pn, hpn, hpn1⟩, t, hB, _, ht⟩ := P.ok_parts hok
  have n1 : ∀ x ∈ xs, Num96 x := fun x hx => (hB.bp ht) x (by dsimp only; rw [hz]; exact List.mem_append_left _ hx)
  have n2 : ∀ x ∈ ys, Num96 x := fun x hx => (hB.bp ht) x (by dsimp only; rw [hz]; exact List.mem_append_right _ hx)
  have n3 : ∀ x ∈ [s0, s1], Num96 x := fun x hx => (hB.bs ht) x hx
  have F0 := ((Fr.start w).alloc r.cells 25).alloc (P.cells ⟨zs, [s0, s1], pl⟩ pa pc sa sc) 28
  simp only [World.size_alloc] at F0
  have HP := Lib.hid (h.below F0.below (Nat.le_refl _))
  have HV := Lib.hid (ValidPosition_c r ⟨zs, [s0, s1], pl⟩ pa sa pc sc _ HP.out (by dsimp only; omega) (by simp))
  rw [hok] at HV
  have hpz := h.pits
  dsimp only at hpz hpn
  obtain ⟨pb, po, rfl, _, _⟩ := Row.at hpz (by simp; omega)
  have hsl1 := slice_lo (some ⟨pb, po, none⟩) zs.length ys.length xs.length pc r.pits hx (by omega) (by omega) hc pb po rfl
  have hsl2 := slice_hi (some ⟨pb, po, none⟩) zs.length xs.length pc r.pits hx (by omega) hc pb po rfl
  have HJ1 := Lib.hid (fun W c (hW : PRow W ⟨zs, [s0, s1], pl⟩ (some ⟨pb, po, none⟩) sa) => joined_c xs (some ⟨pb, po, none⟩) c W (ints_front (by have := hW.pits; dsimp only at this; rw [hz] at this; exact this)) n1 (by omega))
  have HJ2 := Lib.hid (fun W c (hW : PRow W ⟨zs, [s0, s1], pl⟩ (some ⟨pb, po, none⟩) sa) => joined_c ys (some ⟨pb, po + xs.length, none⟩) c W (ints_back (by have := hW.pits; dsimp only at this; rw [hz] at this; exact this)) n2 (by omega))
  have HJ3 := Lib.hid (fun W c (hW : PRow W ⟨zs, [s0, s1], pl⟩ (some ⟨pb, po, none⟩) sa) => joined_c [s0, s1] sa c W hW.stores n3 (by simp))
  subst hpn
  have HD := Lib.hid (fun W => DecimalS_c pn W (by omega))
  have hpT : Hid (posT xs ys [s0, s1] (pn : Int) = Lib.itoa (pn : Int) ++ [32] ++ jc xs ++ [47] ++ jc ys ++ [32] ++ jc [s0, s1]) := rfl
  have l0 := itoa_len (x := (pn : Int)) (by omega)
  have l1 := (jc_no n1).2.2
  have l2 := (jc_no n2).2.2
  have l3 := (jc_no n3).2.2
  obtain ⟨J0, hJ0⟩ : ∃ J, J = Lib.itoa (pn : Int) := ⟨_, rfl⟩
  obtain ⟨J1, hJ1⟩ : ∃ J, J = jc xs := ⟨_, rfl⟩
  obtain ⟨J2, hJ2⟩ : ∃ J, J = jc ys := ⟨_, rfl⟩
  obtain ⟨J3, hJ3⟩ : ∃ J, J = jc [s0, s1] := ⟨_, rfl⟩
  rw [← hJ0] at HD hpT l0
  rw [← hJ1] at HJ1 hpT l1
  rw [← hJ2] at HJ2 hpT l2
  rw [← hJ3] at HJ3 hpT l3
  have hap := ba_app
  have hsz : ∀ x : List UInt8, (ByteArray.mk x.toArray).size = x.length := str_size
  have b1 : J1.length ≤ 100 := by omega
  have b2 : J2.length ≤ 100 := by omega
  have b3 : J3.length ≤ 100 := by simp at l3; omega
  clear hJ0 hJ1 hJ2 hJ3 n1 n2 n3 hok h hB ht hb hz l1 l2 l3 hpz hx hy hlz hc hcm h1 hm hpn1
  go_enter Tryd.func12, Tryd.ntmps12
  go_wp2_with fail
  refine HV.out.mono ?_
  rintro e wv ⟨rfl, hbv⟩
  have HPV := Lib.hid (HP.out.below hbv (Nat.le_refl _))
  have F1 := F0.step hbv
  obtain ⟨c0, c1, c2, c3, c4, c5, c6, c7, c8⟩ := R.boxc (F1.at 1 rfl)
  obtain ⟨d0, d1, d2⟩ := P.boxc (F1.at 0 rfl)
  have HBB := Lib.hid F1.below
  clear hbv F0 F1 HP HV
  have HPD : Hid (PRow wv.drew ⟨zs, [s0, s1], (pn : Int)⟩ (some ⟨pb, po, none⟩) sa) := HPV.out.below (Below.refl _ _).drew (Nat.le_refl _)
  have HS0 : Hid (wv.drew.cell? ⟨w.heap.size, 0, none⟩ = some (.int .i64 r.pits) ∧ wv.drew.cell? ⟨w.heap.size + 1, 0, none⟩ = some (.slice (some ⟨pb, po, none⟩) zs.length pc) ∧ wv.drew.cell? ⟨w.heap.size + 1, 1, none⟩ = some (.slice sa 2 sc) ∧ wv.drew.cell? ⟨w.heap.size + 1, 2, none⟩ = some (.int .i64 (pn : Int))) := ⟨c0, d0, d1, d2⟩
  have HBD := Lib.hid (below_next HBB.out (Below.refl wv.heap.size wv).drew)
  have n1 : ¬ 9223372036854775807 < J0.length + 1 := by omega
  have n2 : ¬ 9223372036854775807 < J0.length + 1 + J1.length := by omega
  have n3 : ¬ 9223372036854775807 < J0.length + (J1.length + 1) + 1 := by omega
  have n4 : ¬ 9223372036854775807 < J0.length + (J1.length + 1 + 1) + J2.length := by omega
  have n5 : ¬ 9223372036854775807 < J0.length + (J1.length + (J2.length + 1) + 1) + 1 := by omega
  have n6 : ¬ 9223372036854775807 < J0.length + (J1.length + (J2.length + 1 + 1) + 1) + J3.length := by omega
  clear c0 c1 c2 c3 c4 c5 c6 c7 c8 d0 d1 d2 HPV HBB
  go_wp2_with fail
  refine heldH (S := fun V => V.cell? ⟨w.heap.size, 0, none⟩ = some (.int .i64 r.pits) ∧ V.cell? ⟨w.heap.size + 1, 0, none⟩ = some (.slice (some ⟨pb, po, none⟩) zs.length pc) ∧ V.cell? ⟨w.heap.size + 1, 1, none⟩ = some (.slice sa 2 sc) ∧ V.cell? ⟨w.heap.size + 1, 2, none⟩ = some (.int .i64 (pn : Int))) (n := 25) (listed := #[false, false, false, false, false, false, false, false, false, false, false, false, false, false, false, false, false, false, false, false, false, false, false, false, false]) (by kernel_rfl) (by rfl) (by rfl) ?_ (fun hHeld => ?_)
  (focus ((try dsimp only); (first | done | ((exact HS0.out); done))))
  (refine takeH (i := 0) (v := ?_) (by decide +kernel) (by decide +kernel) (by kernel_rfl) (by rfl) (by exact fun _ _ _ h => h) (by rfl) ?_ (by assumption) ?_); rotate_left; (focus (intro w hSw; (try dsimp only at hSw); go_simp; (try with_reducible rfl); done)); (try simp only [Act.put, List.setIfInBounds_toArray, List.set_cons_zero, List.set_cons_succ])
  (refine takeH (i := 1) (v := ?_) (by decide +kernel) (by decide +kernel) (by kernel_rfl) (by rfl) (by exact fun _ _ _ h => h) (by rfl) ?_ (by assumption) ?_); rotate_left; (focus (intro w hSw; (try dsimp only at hSw); go_simp; (try with_reducible rfl); done)); (try simp only [Act.put, List.setIfInBounds_toArray, List.set_cons_zero, List.set_cons_succ])
  (refine takeH (i := 4) (v := ?_) (by decide +kernel) (by decide +kernel) (by kernel_rfl) (by rfl) (by exact fun _ _ _ h => h) (by rfl) ?_ (by assumption) ?_); rotate_left; (focus (intro w hSw; (try dsimp only at hSw); go_simp; (try with_reducible rfl); done)); (try simp only [Act.put, List.setIfInBounds_toArray, List.set_cons_zero, List.set_cons_succ])
  (refine takeH (i := 5) (v := ?_) (by decide +kernel) (by decide +kernel) (by kernel_rfl) (by rfl) (by exact fun _ _ _ h => h) (by rfl) ?_ (by assumption) ?_); rotate_left; (focus (intro w hSw; (try dsimp only at hSw); go_simp; (try with_reducible rfl); done)); (try simp only [Act.put, List.setIfInBounds_toArray, List.set_cons_zero, List.set_cons_succ])
  (refine takeH (i := 6) (v := ?_) (by decide +kernel) (by decide +kernel) (by kernel_rfl) (by rfl) (by exact fun _ _ _ h => h) (by rfl) ?_ (by assumption) ?_); rotate_left; (focus (intro w hSw; (try dsimp only at hSw); go_simp; (try with_reducible rfl); done)); (try simp only [Act.put, List.setIfInBounds_toArray, List.set_cons_zero, List.set_cons_succ])
  (refine takeH (i := 7) (v := ?_) (by decide +kernel) (by decide +kernel) (by kernel_rfl) (by rfl) (by exact fun _ _ _ h => h) (by rfl) ?_ (by assumption) ?_); rotate_left; (focus (intro w hSw; (try dsimp only at hSw); go_simp; (try with_reducible rfl); done)); (try simp only [Act.put, List.setIfInBounds_toArray, List.set_cons_zero, List.set_cons_succ])
  (refine takeH (i := 8) (v := ?_) (by decide +kernel) (by decide +kernel) (by kernel_rfl) (by rfl) (by exact fun _ _ _ h => h) (by rfl) ?_ (by assumption) ?_); rotate_left; (focus (intro w hSw; (try dsimp only at hSw); go_simp; (try with_reducible rfl); done)); (try simp only [Act.put, List.setIfInBounds_toArray, List.set_cons_zero, List.set_cons_succ])
  (refine takeH (i := 12) (v := ?_) (by decide +kernel) (by decide +kernel) (by kernel_rfl) (by rfl) (by exact fun _ _ _ h => h) (by rfl) ?_ (by assumption) ?_); rotate_left; (focus (intro w hSw; (try dsimp only at hSw); go_simp; (try with_reducible rfl); done)); (try simp only [Act.put, List.setIfInBounds_toArray, List.set_cons_zero, List.set_cons_succ])
  (refine takeH (i := 13) (v := ?_) (by decide +kernel) (by decide +kernel) (by kernel_rfl) (by rfl) (by exact fun _ _ _ h => h) (by rfl) ?_ (by assumption) ?_); rotate_left; (focus (intro w hSw; (try dsimp only at hSw); go_simp; (try with_reducible rfl); done)); (try simp only [Act.put, List.setIfInBounds_toArray, List.set_cons_zero, List.set_cons_succ])
  (refine takeH (i := 14) (v := ?_) (by decide +kernel) (by decide +kernel) (by kernel_rfl) (by rfl) (by exact fun _ _ _ h => h) (by rfl) ?_ (by assumption) ?_); rotate_left; (focus (intro w hSw; (try dsimp only at hSw); go_simp; (try with_reducible rfl); done)); (try simp only [Act.put, List.setIfInBounds_toArray, List.set_cons_zero, List.set_cons_succ])
  (refine takeH (i := 15) (v := ?_) (by decide +kernel) (by decide +kernel) (by kernel_rfl) (by rfl) (by exact fun _ _ _ h => h) (by rfl) ?_ (by assumption) ?_); rotate_left; (focus (intro w hSw; (try dsimp only at hSw); go_simp; (try with_reducible rfl); done)); (try simp only [Act.put, List.setIfInBounds_toArray, List.set_cons_zero, List.set_cons_succ])
  (refine takeH (i := 16) (v := ?_) (by decide +kernel) (by decide +kernel) (by kernel_rfl) (by rfl) (by exact fun _ _ _ h => h) (by rfl) ?_ (by assumption) ?_); rotate_left; (focus (intro w hSw; (try dsimp only at hSw); go_simp; (try with_reducible rfl); done)); (try simp only [Act.put, List.setIfInBounds_toArray, List.set_cons_zero, List.set_cons_succ])
  (refine takeH (i := 20) (v := ?_) (by decide +kernel) (by decide +kernel) (by kernel_rfl) (by rfl) (by exact fun _ _ _ h => h) (by rfl) ?_ (by assumption) ?_); rotate_left; (focus (intro w hSw; (try dsimp only at hSw); go_simp; (try with_reducible rfl); done)); (try simp only [Act.put, List.setIfInBounds_toArray, List.set_cons_zero, List.set_cons_succ])
  (refine takeH (i := 21) (v := ?_) (by decide +kernel) (by decide +kernel) (by kernel_rfl) (by rfl) (by exact fun _ _ _ h => h) (by rfl) ?_ (by assumption) ?_); rotate_left; (focus (intro w hSw; (try dsimp only at hSw); go_simp; (try with_reducible rfl); done)); (try simp only [Act.put, List.setIfInBounds_toArray, List.set_cons_zero, List.set_cons_succ])
  refine nextH (i := 2) (by decide +kernel) (by rfl) (by rfl) (fun K hK => ?_)
  (go_simp; go_at_call 28; (refine (HD.out _).mono ?_); (rintro e w1 ⟨rfl, rfl⟩))
  refine hK.out _ _ ?_ (fun hHeld' => ?_)
  (focus ((try dsimp only); (first | done | ((exact HS0.out); done))))
  clear hK K hHeld
  have hHeld := hHeld'
  clear hHeld'
  (try simp only [Act.put, List.setIfInBounds_toArray, List.set_cons_zero, List.set_cons_succ])
  (refine takeH (i := 3) (v := ?_) (by decide +kernel) (by decide +kernel) (by kernel_rfl) (by rfl) (by exact fun _ _ _ h => h) (by rfl) ?_ (by assumption) ?_); rotate_left; (focus (intro w hSw; (try dsimp only at hSw); go_simp; (try with_reducible rfl); done)); (try simp only [Act.put, List.setIfInBounds_toArray, List.set_cons_zero, List.set_cons_succ])
  refine nextH (i := 9) (by decide +kernel) (by rfl) (by rfl) (fun K hK => ?_)
  (go_simp; go_at_call 29; (refine (HJ1.out _ _ HPD.out).mono ?_); (rintro e w1 ⟨rfl, rfl⟩))
  refine hK.out _ _ ?_ (fun hHeld' => ?_)
  (focus ((try dsimp only); (first | done | ((exact HS0.out); done))))
  clear hK K hHeld
  have hHeld := hHeld'
  clear hHeld'
  (try simp only [Act.put, List.setIfInBounds_toArray, List.set_cons_zero, List.set_cons_succ])
  (refine takeH (i := 10) (v := ?_) (by decide +kernel) (by decide +kernel) (by kernel_rfl) (by rfl) (by exact fun _ _ _ h => h) (by rfl) ?_ (by assumption) ?_); rotate_left; (focus (intro w hSw; (try dsimp only at hSw); go_simp; (try with_reducible rfl); done)); (try simp only [Act.put, List.setIfInBounds_toArray, List.set_cons_zero, List.set_cons_succ])
  (refine takeH (i := 11) (v := ?_) (by decide +kernel) (by decide +kernel) (by kernel_rfl) (by rfl) (by exact fun _ _ _ h => h) (by rfl) ?_ (by assumption) ?_); rotate_left; (focus (intro w hSw; (try dsimp only at hSw); go_simp; (try with_reducible rfl); done)); (try simp only [Act.put, List.setIfInBounds_toArray, List.set_cons_zero, List.set_cons_succ])
  refine nextH (i := 17) (by decide +kernel) (by rfl) (by rfl) (fun K hK => ?_)
  (go_simp; go_at_call 29; (refine (HJ2.out _ _ HPD.out).mono ?_); (rintro e w1 ⟨rfl, rfl⟩))
  refine hK.out _ _ ?_ (fun hHeld' => ?_)
  (focus ((try dsimp only); (first | done | ((exact HS0.out); done))))
  clear hK K hHeld
  have hHeld := hHeld'
  clear hHeld'
  (try simp only [Act.put, List.setIfInBounds_toArray, List.set_cons_zero, List.set_cons_succ])
  (refine takeH (i := 18) (v := ?_) (by decide +kernel) (by decide +kernel) (by kernel_rfl) (by rfl) (by exact fun _ _ _ h => h) (by rfl) ?_ (by assumption) ?_); rotate_left; (focus (intro w hSw; (try dsimp only at hSw); go_simp; (try with_reducible rfl); done)); (try simp only [Act.put, List.setIfInBounds_toArray, List.set_cons_zero, List.set_cons_succ])
  (refine takeH (i := 19) (v := ?_) (by decide +kernel) (by decide +kernel) (by kernel_rfl) (by rfl) (by exact fun _ _ _ h => h) (by rfl) ?_ (by assumption) ?_); rotate_left; (focus (intro w hSw; (try dsimp only at hSw); go_simp; (try with_reducible rfl); done)); (try simp only [Act.put, List.setIfInBounds_toArray, List.set_cons_zero, List.set_cons_succ])
  refine nextH (i := 22) (by decide +kernel) (by rfl) (by rfl) (fun K hK => ?_)
  (go_simp; go_at_call 29; (refine (HJ3.out _ _ HPD.out).mono ?_); (rintro e w1 ⟨rfl, rfl⟩))
  refine hK.out _ _ ?_ (fun hHeld' => ?_)
  (focus ((try dsimp only); (first | done | ((exact HS0.out); done))))
  clear hK K hHeld
  have hHeld := hHeld'
  clear hHeld'
  (try simp only [Act.put, List.setIfInBounds_toArray, List.set_cons_zero, List.set_cons_succ])
  (refine takeH (i := 23) (v := ?_) (by decide +kernel) (by decide +kernel) (by kernel_rfl) (by rfl) (by exact fun _ _ _ h => h) (by rfl) ?_ (by assumption) ?_); rotate_left; (focus (intro w hSw; (try dsimp only at hSw); go_simp; (try with_reducible rfl); done)); (try simp only [Act.put, List.setIfInBounds_toArray, List.set_cons_zero, List.set_cons_succ])
  (refine takeH (i := 24) (v := ?_) (by decide +kernel) (by decide +kernel) (by kernel_rfl) (by rfl) (by exact fun _ _ _ h => h) (by rfl) ?_ (by assumption) ?_); rotate_left; (focus (intro w hSw; (try dsimp only at hSw); go_simp; (try with_reducible rfl); done)); (try simp only [Act.put, List.setIfInBounds_toArray, List.set_cons_zero, List.set_cons_succ])
  refine wpAnyH_done (by decide +kernel) ?_ _
  clear hHeld
  go_wp2
  go_ret
  exact ⟨by rw [hpT.out]; simp, HBD.out⟩

end Go.Proofs.YtenjffoboiohnaaDoor
