/- Game3: new games: both sides. Each contract holds for every argument, under the premises that it states. -/
import Derived.Test.YteabheocbkcmnaaGame2
namespace Go.Proofs.Yteabheocbkcmnaa
set_option linter.unusedSimpArgs false
set_option linter.unusedVariables false
set_option linter.unnecessarySimpa false
open Go.RowKit Go.ChangeShapes Go.WideShapes Go.ChangeAt Go.Joins

theorem startP_ok {r : R} (h : r.ok = true) : (startP r).ok r = true := by
  obtain ⟨⟨h1, h2⟩, ⟨h3, h4⟩, _⟩ := R.ok_iff.1 h
  have hs : ∀ n : Nat, (List.replicate n r.seeds).sum = (n : Int) * r.seeds := by
    intro n
    induction n with
    | zero => simp
    | succ n ih => rw [List.replicate_succ, List.sum_cons, ih]; push_cast; rw [Int.add_mul]; omega
  simp only [P.ok, Bool.and_eq_true, decide_eq_true_eq, startP]
  refine ⟨⟨⟨⟨⟨⟨h, by simp; omega⟩, rfl⟩, by decide⟩, ?_⟩, by decide⟩, ?_⟩
  · exact List.all_eq_true.2 (fun x hx => by obtain ⟨_, rfl⟩ := List.mem_replicate.1 hx; exact inB_iff.2 ⟨by omega, by omega⟩)
  · refine decide_eq_true ?_
    show (List.replicate (2 * r.pits).toNat r.seeds).sum + ([0, 0] : List Int).sum ≤ 96
    rw [hs]
    have e : (((2 * r.pits).toNat : Nat) : Int) = 2 * r.pits := by omega
    rw [e]
    have := Int.mul_le_mul (a := 2 * r.pits) (b := r.seeds) (c := 16) (d := 6) (by omega) (by omega) (by omega) (by omega)
    simp
    omega
theorem gf_start {r : R} (h : r.ok = true) : gfP r (startP r) = (G.of r (startP r), 0) := by unfold gfP; rw [if_pos (startP_ok h)]
theorem startP_len {r : R} (h : r.ok = true) : (startP r).pits.length ≤ 16 ∧ (startP r).stores.length ≤ 16 := by
  obtain ⟨⟨h1, h2⟩, _⟩ := R.ok_iff.1 h
  simp [startP]
  omega

set_option maxRecDepth 100000 in
set_option maxHeartbeats 8000000 in
theorem iNewGame_c (r : R) (w : World) : Calls Try.prog 17 #[r.val] w (GRes w (ngP r)) := by
  have F0 := ((Fr.start w).alloc r.cells 24).alloc #[.int .i64 0, .int .i64 0, .bool false, .bool false, .bool false, .bool false, .bool false, .int .i64 0, .int .i64 0, .slice none 0 0, .slice none 0 0, .int .i64 0, .slice none 0 0, .slice none 0 0, .slice none 0 0, .int .i64 0, .int .i64 0] 29
  have R0 : Bx w.heap.size r.cells.toList ((w.alloc (.cells r.cells 24)).alloc (.cells #[.int .i64 0, .int .i64 0, .bool false, .bool false, .bool false, .bool false, .bool false, .int .i64 0, .int .i64 0, .slice none 0 0, .slice none 0 0, .int .i64 0, .slice none 0 0, .slice none 0 0, .slice none 0 0, .int .i64 0, .int .i64 0] 29)) := (Bx.alloc w _ _ rfl).allocO (by simp) _ _
  have Z0 : Bx (w.heap.size + 1) [.int .i64 0, .int .i64 0, .bool false, .bool false, .bool false, .bool false, .bool false, .int .i64 0, .int .i64 0, .slice none 0 0, .slice none 0 0, .int .i64 0, .slice none 0 0, .slice none 0 0, .slice none 0 0, .int .i64 0, .int .i64 0] ((w.alloc (.cells r.cells 24)).alloc (.cells #[.int .i64 0, .int .i64 0, .bool false, .bool false, .bool false, .bool false, .bool false, .int .i64 0, .int .i64 0, .slice none 0 0, .slice none 0 0, .int .i64 0, .slice none 0 0, .slice none 0 0, .slice none 0 0, .int .i64 0, .int .i64 0] 29)) := Bx.alloc _ _ _ (by simp)
  have HV := Lib.hid (ValidRules_c r ((w.alloc (.cells r.cells 24)).alloc (.cells #[.int .i64 0, .int .i64 0, .bool false, .bool false, .bool false, .bool false, .bool false, .int .i64 0, .int .i64 0, .slice none 0 0, .slice none 0 0, .int .i64 0, .slice none 0 0, .slice none 0 0, .slice none 0 0, .int .i64 0, .int .i64 0] 29)))
  have HB0 := Lib.hid F0.below
  have H0 := Lib.hid (⟨R0, Z0⟩ : _ ∧ _)
  clear F0 R0 Z0
  unfold ngP
  cases hok : r.ok
  · rw [hok] at HV
    clear hok
    rw [if_neg (by simp)]
    go_enter Try.func17, Try.ntmps17
    go_wp2_with fail
    refine HV.out.mono ?_
    rintro e wv ⟨rfl, hbv⟩
    have ZV := H0.out.2.below hbv (by simp)
    have BV := Lib.hid (below_next HB0.out hbv)
    have TH := Lib.hid (ZV.there)
    have ZF := Lib.hid (ZV.sets_all (vs := [.int .i64 0, .int .i64 0, .bool false, .bool false, .bool false, .bool false, .bool false, .int .i64 0, .int .i64 0, .slice none 0 0, .slice none 0 0, .int .i64 0, .slice none 0 0, .slice none 0 0, .slice none 0 0, .int .i64 0, .int .i64 0]) rfl)
    have zz := ZV.lt (by simp)
    clear hbv ZV
    go_upto_region 2 with fail
    go_wp2_with (refine wpList_store_mid rfl 29 _ _ rfl _ _ #[.int .i64 0, .int .i64 0, .bool false, .bool false, .bool false, .bool false, .bool false, .int .i64 0, .int .i64 0, .slice none 0 0, .slice none 0 0, .int .i64 0, .slice none 0 0, .slice none 0 0, .slice none 0 0, .int .i64 0, .int .i64 0] rfl rfl TH.out (by kernel_rfl) (by simp [Value.oneCell']) ?_)
    refine bodyPost_ret (v := .tuple #[G.zero.val GA.none, .int .i64 1]) (results_bx2 Try.results17 _ rfl rfl _ ZF.out Try.underlying29 rfl (by kernel_rfl)) rfl ⟨GA.none, rfl, GP.nil _ _ (by rw [size_sets]; omega) _, below_sets (by omega) _ _ BV.out⟩
  · rw [if_pos rfl]
    have HLS := Lib.hid (startP_len hok)
    obtain ⟨⟨b1, b2⟩, _⟩ := R.ok_iff.1 hok
    have HGF : ∀ (q : P) (pa sa : Option Addr) (pc sc : Nat) (W : World), q = startP r → PRow W q pa sa → Calls Try.prog 24 #[r.val, q.val pa pc sa sc] W (GRes W (G.of r (startP r), 0)) := fun q pa sa pc sc W hq hW => by
      subst hq
      rw [← gf_start hok]
      exact iGameFrom_c r (startP r) pa sa pc sc W hW (by have := HLS.out; omega) (by have := HLS.out; omega)
    obtain ⟨q, hq⟩ : ∃ q, q = startP r := ⟨_, rfl⟩
    have HGF := Lib.hid (fun pa sa pc sc W => HGF q pa sa pc sc W hq)
    have HST := Lib.hid (fun W => start_c r W (by omega) (by omega))
    rw [← hq] at HGF HST ⊢
    rw [hok] at HV
    clear hok HLS hq
    go_enter Try.func17, Try.ntmps17
    go_wp2_with fail
    refine HV.out.mono ?_
    rintro e wv ⟨rfl, hbv⟩
    have ZV := Lib.hid (H0.out.2.below hbv (by simp)).drew
    have RV := Lib.hid (H0.out.1.below hbv (by simp <;> omega)).drew
    have BV := Lib.hid (below_next HB0.out hbv).drew
    have HSK : Hid (∀ W, Bx w.heap.size r.cells.toList W → (W.cell? ⟨w.heap.size, 0, none⟩ = some (.int .i64 r.pits) ∧ W.cell? ⟨w.heap.size, 1, none⟩ = some (.int .i64 r.seeds) ∧ W.cell? ⟨w.heap.size, 2, none⟩ = some (.bool r.stores) ∧ W.cell? ⟨w.heap.size, 3, none⟩ = some (.bool r.skip) ∧ W.cell? ⟨w.heap.size, 4, none⟩ = some (.bool r.relay) ∧ W.cell? ⟨w.heap.size, 5, none⟩ = some (.bool r.feed) ∧ W.cell? ⟨w.heap.size, 6, none⟩ = some (.bool r.again) ∧ W.cell? ⟨w.heap.size, 7, none⟩ = some (.int .i64 r.capture) ∧ W.cell? ⟨w.heap.size, 8, none⟩ = some (.int .i64 r.slam))) := fun W hW => ⟨hW.box 0 _ rfl, hW.box 1 _ rfl, hW.box 2 _ rfl, hW.box 3 _ rfl, hW.box 4 _ rfl, hW.box 5 _ rfl, hW.box 6 _ rfl, hW.box 7 _ rfl, hW.box 8 _ rfl⟩
    have q0 := HSK.out _ RV.out
    have zz := ZV.out.lt (by simp)
    simp only [World.size_drew] at zz
    clear hbv H0 HV
    go_upto_region 3 with fail
    refine heldH (S := fun W => W.cell? ⟨w.heap.size, 0, none⟩ = some (.int .i64 r.pits) ∧ W.cell? ⟨w.heap.size, 1, none⟩ = some (.int .i64 r.seeds) ∧ W.cell? ⟨w.heap.size, 2, none⟩ = some (.bool r.stores) ∧ W.cell? ⟨w.heap.size, 3, none⟩ = some (.bool r.skip) ∧ W.cell? ⟨w.heap.size, 4, none⟩ = some (.bool r.relay) ∧ W.cell? ⟨w.heap.size, 5, none⟩ = some (.bool r.feed) ∧ W.cell? ⟨w.heap.size, 6, none⟩ = some (.bool r.again) ∧ W.cell? ⟨w.heap.size, 7, none⟩ = some (.int .i64 r.capture) ∧ W.cell? ⟨w.heap.size, 8, none⟩ = some (.int .i64 r.slam)) (n := 8) (listed := #[false, false, false, false, false, false, false, false]) (by kernel_rfl) (by rfl) (by rfl) ?_ (fun hHeld => ?_)
    (focus ((try dsimp only); (first | done | ((first | (with_reducible exact q0) | exact HSK.out _ (Bx.setsO (by omega) _ _ R2.out) | exact q2 | exact q1 | exact q0); done))))
    (refine takeH (i := 0) (v := ?_) (by decide +kernel) (by decide +kernel) (by kernel_rfl) (by rfl) (by exact fun _ _ _ h => h) (by rfl) ?_ (by assumption) ?_); rotate_left; (focus (intro w hSw; (try dsimp only at hSw); go_simp; (try with_reducible rfl); done)); (try simp only [Act.put, List.setIfInBounds_toArray, List.set_cons_zero, List.set_cons_succ])
    (refine takeH (i := 1) (v := ?_) (by decide +kernel) (by decide +kernel) (by kernel_rfl) (by rfl) (by exact fun _ _ _ h => h) (by rfl) ?_ (by assumption) ?_); rotate_left; (focus (intro w hSw; (try dsimp only at hSw); go_simp; (try with_reducible rfl); done)); (try simp only [Act.put, List.setIfInBounds_toArray, List.set_cons_zero, List.set_cons_succ])
    refine nextH (i := 2) (by decide +kernel) (by rfl) (by rfl) (fun K hK => ?_)
    (first | ((refine wp_store_mid 29 _ _ rfl (w.heap.size + 1) 0 ((G.of r q).cells A) rfl rfl TH2.out (by kernel_rfl) (by simp [Value.oneCell', G.cells]) ?_)) | (go_simp; (first | (go_at_call 24; (refine (HGF.out pa1 sa1 pc1 sc1 _ HO1.out.row).mono ?_); (rintro e w2 ⟨A, rfl, hg2, hb2⟩); (have R2 := Lib.hid (R1.out.below hb2 (R1.out.lt (by simp [R.cells])))); (have q2 := HSK.out _ R2.out); (have Z2 := Z1.out.below hb2 z1); (have TH2 := Lib.hid Z2.there); (have z2 := hb2.size); (have ZF := Lib.hid (Z2.sets_all (vs := ((G.of r q).cells A).toList) rfl)); (have HG := Lib.hid hg2); (have B2 := Lib.hid (below_next (below_next BV.out B1.out) hb2)); clear hg2 hb2 Z2) | (go_at_call 76; (refine (HST.out _).mono ?_); (rintro e w1 ⟨pa1, pc1, sa1, sc1, rfl, ho1, hb1⟩); (have R1 := Lib.hid (RV.out.below hb1 (RV.out.lt (by simp [R.cells])))); (have q1 := HSK.out _ R1.out); (have Z1 := Lib.hid (ZV.out.below hb1 (ZV.out.lt (by simp)))); (have z1 := Z1.out.lt (by simp)); (have B1 := Lib.hid hb1); (have z0 := hb1.size); (simp only [World.size_drew] at z0); (have HO1 := Lib.hid ho1); clear ho1 hb1) | skip)))
    refine hK.out _ _ ?_ (fun hHeld' => ?_)
    (focus ((try dsimp only); (first | done | ((first | (with_reducible exact q0) | exact HSK.out _ (Bx.setsO (by omega) _ _ R2.out) | exact q2 | exact q1 | exact q0); done))))
    clear hK K hHeld
    have hHeld := hHeld'
    clear hHeld'
    (try simp only [Act.put, List.setIfInBounds_toArray, List.set_cons_zero, List.set_cons_succ])
    refine nextH (i := 3) (by decide +kernel) (by rfl) (by rfl) (fun K hK => ?_)
    (first | ((refine wp_store_mid 29 _ _ rfl (w.heap.size + 1) 0 ((G.of r q).cells A) rfl rfl TH2.out (by kernel_rfl) (by simp [Value.oneCell', G.cells]) ?_)) | (go_simp; (first | (go_at_call 24; (refine (HGF.out pa1 sa1 pc1 sc1 _ HO1.out.row).mono ?_); (rintro e w2 ⟨A, rfl, hg2, hb2⟩); (have R2 := Lib.hid (R1.out.below hb2 (R1.out.lt (by simp [R.cells])))); (have q2 := HSK.out _ R2.out); (have Z2 := Z1.out.below hb2 z1); (have TH2 := Lib.hid Z2.there); (have z2 := hb2.size); (have ZF := Lib.hid (Z2.sets_all (vs := ((G.of r q).cells A).toList) rfl)); (have HG := Lib.hid hg2); (have B2 := Lib.hid (below_next (below_next BV.out B1.out) hb2)); clear hg2 hb2 Z2) | (go_at_call 76; (refine (HST.out _).mono ?_); (rintro e w1 ⟨pa1, pc1, sa1, sc1, rfl, ho1, hb1⟩); (have R1 := Lib.hid (RV.out.below hb1 (RV.out.lt (by simp [R.cells])))); (have q1 := HSK.out _ R1.out); (have Z1 := Lib.hid (ZV.out.below hb1 (ZV.out.lt (by simp)))); (have z1 := Z1.out.lt (by simp)); (have B1 := Lib.hid hb1); (have z0 := hb1.size); (simp only [World.size_drew] at z0); (have HO1 := Lib.hid ho1); clear ho1 hb1) | skip)))
    refine hK.out _ _ ?_ (fun hHeld' => ?_)
    (focus ((try dsimp only); (first | done | ((first | (with_reducible exact q0) | exact HSK.out _ (Bx.setsO (by omega) _ _ R2.out) | exact q2 | exact q1 | exact q0); done))))
    clear hK K hHeld
    have hHeld := hHeld'
    clear hHeld'
    (try simp only [Act.put, List.setIfInBounds_toArray, List.set_cons_zero, List.set_cons_succ])
    (refine takeH (i := 4) (v := ?_) (by decide +kernel) (by decide +kernel) (by kernel_rfl) (by rfl) (by exact fun _ _ _ h => h) (by rfl) ?_ (by assumption) ?_); rotate_left; (focus (intro w hSw; (try dsimp only at hSw); go_simp; (try with_reducible rfl); done)); (try simp only [Act.put, List.setIfInBounds_toArray, List.set_cons_zero, List.set_cons_succ])
    (refine takeH (i := 5) (v := ?_) (by decide +kernel) (by decide +kernel) (by kernel_rfl) (by rfl) (by exact fun _ _ _ h => h) (by rfl) ?_ (by assumption) ?_); rotate_left; (focus (intro w hSw; (try dsimp only at hSw); go_simp; (try with_reducible rfl); done)); (try simp only [Act.put, List.setIfInBounds_toArray, List.set_cons_zero, List.set_cons_succ])
    refine nextH (i := 6) (by decide +kernel) (by rfl) (by rfl) (fun K hK => ?_)
    (first | ((refine wp_store_mid 29 _ _ rfl (w.heap.size + 1) 0 ((G.of r q).cells A) rfl rfl TH2.out (by kernel_rfl) (by simp [Value.oneCell', G.cells]) ?_)) | (go_simp; (first | (go_at_call 24; (refine (HGF.out pa1 sa1 pc1 sc1 _ HO1.out.row).mono ?_); (rintro e w2 ⟨A, rfl, hg2, hb2⟩); (have R2 := Lib.hid (R1.out.below hb2 (R1.out.lt (by simp [R.cells])))); (have q2 := HSK.out _ R2.out); (have Z2 := Z1.out.below hb2 z1); (have TH2 := Lib.hid Z2.there); (have z2 := hb2.size); (have ZF := Lib.hid (Z2.sets_all (vs := ((G.of r q).cells A).toList) rfl)); (have HG := Lib.hid hg2); (have B2 := Lib.hid (below_next (below_next BV.out B1.out) hb2)); clear hg2 hb2 Z2) | (go_at_call 76; (refine (HST.out _).mono ?_); (rintro e w1 ⟨pa1, pc1, sa1, sc1, rfl, ho1, hb1⟩); (have R1 := Lib.hid (RV.out.below hb1 (RV.out.lt (by simp [R.cells])))); (have q1 := HSK.out _ R1.out); (have Z1 := Lib.hid (ZV.out.below hb1 (ZV.out.lt (by simp)))); (have z1 := Z1.out.lt (by simp)); (have B1 := Lib.hid hb1); (have z0 := hb1.size); (simp only [World.size_drew] at z0); (have HO1 := Lib.hid ho1); clear ho1 hb1) | skip)))
    refine hK.out _ _ ?_ (fun hHeld' => ?_)
    (focus ((try dsimp only); (first | done | ((first | (with_reducible exact q0) | exact HSK.out _ (Bx.setsO (by omega) _ _ R2.out) | exact q2 | exact q1 | exact q0); done))))
    clear hK K hHeld
    have hHeld := hHeld'
    clear hHeld'
    (try simp only [Act.put, List.setIfInBounds_toArray, List.set_cons_zero, List.set_cons_succ])
    (refine takeH (i := 7) (v := ?_) (by decide +kernel) (by decide +kernel) (by kernel_rfl) (by rfl) (by exact fun _ _ _ h => h) (by rfl) ?_ (by assumption) ?_); rotate_left; (focus (intro w hSw; (try dsimp only at hSw); go_simp; (try with_reducible rfl); done)); (try simp only [Act.put, List.setIfInBounds_toArray, List.set_cons_zero, List.set_cons_succ])
    refine wpAnyH_done (by decide +kernel) ?_ _
    clear hHeld q0 q1 q2
    go_wp2_with fail
    refine bodyPost_ret (v := .tuple #[(G.of r q).val A, .int .i64 0]) (results_bx2 Try.results17 _ rfl rfl _ ZF.out Try.underlying29 rfl (by kernel_rfl)) rfl ⟨A, rfl, ?_, below_sets (by omega) _ _ B2.out⟩
    rw [size_sets]
    have k9 := GP.stab _ _ _ _ w2 (w2.setCells (w.heap.size + 1) 0 ((G.of r q).cells A).toList) HG.out (fun k k1 k2 => (chg_sets _ _ _ w2).block k (by omega) (by omega))
    exact k9.le (by omega) (Nat.le_refl _)

set_option maxRecDepth 100000 in
set_option maxHeartbeats 8000000 in
theorem sNewGame_c (r : R) (w : World) : Calls Try.prog 15 #[r.val] w (GRes w (ngP r)) := by
  have F0 := ((Fr.start w).alloc r.cells 24).alloc #[.int .i64 0, .int .i64 0, .bool false, .bool false, .bool false, .bool false, .bool false, .int .i64 0, .int .i64 0, .slice none 0 0, .slice none 0 0, .int .i64 0, .slice none 0 0, .slice none 0 0, .slice none 0 0, .int .i64 0, .int .i64 0] 29
  have Z0 : Bx (w.heap.size + 1) [.int .i64 0, .int .i64 0, .bool false, .bool false, .bool false, .bool false, .bool false, .int .i64 0, .int .i64 0, .slice none 0 0, .slice none 0 0, .int .i64 0, .slice none 0 0, .slice none 0 0, .slice none 0 0, .int .i64 0, .int .i64 0] ((w.alloc (.cells r.cells 24)).alloc (.cells #[.int .i64 0, .int .i64 0, .bool false, .bool false, .bool false, .bool false, .bool false, .int .i64 0, .int .i64 0, .slice none 0 0, .slice none 0 0, .int .i64 0, .slice none 0 0, .slice none 0 0, .slice none 0 0, .int .i64 0, .int .i64 0] 29)) := Bx.alloc _ _ _ (by simp)
  have HAT := Lib.hid (R.boxc (F0.at 1 rfl))
  have HV := Lib.hid (l02Ok_c _ _ r _ HAT.out)
  have HB0 := Lib.hid F0.below
  have H0 := Lib.hid Z0
  clear F0 Z0
  unfold ngP
  cases hok : r.ok
  · rw [hok] at HV
    clear hok
    rw [if_neg (by simp)]
    have TH := Lib.hid (H0.out.there)
    have ZF := Lib.hid (H0.out.sets_all (vs := [.int .i64 0, .int .i64 0, .bool false, .bool false, .bool false, .bool false, .bool false, .int .i64 0, .int .i64 0, .slice none 0 0, .slice none 0 0, .int .i64 0, .slice none 0 0, .slice none 0 0, .slice none 0 0, .int .i64 0, .int .i64 0]) rfl)
    go_enter Try.func15, Try.ntmps15
    go_wp2_with fail
    refine HV.out.mono ?_
    rintro e wv ⟨rfl, rfl⟩
    go_upto_region 2 with fail
    go_wp2_with (refine wpList_store_mid rfl 29 _ _ rfl _ _ #[.int .i64 0, .int .i64 0, .bool false, .bool false, .bool false, .bool false, .bool false, .int .i64 0, .int .i64 0, .slice none 0 0, .slice none 0 0, .int .i64 0, .slice none 0 0, .slice none 0 0, .slice none 0 0, .int .i64 0, .int .i64 0] rfl rfl TH.out (by kernel_rfl) (by simp [Value.oneCell']) ?_)
    refine bodyPost_ret (v := .tuple #[G.zero.val GA.none, .int .i64 1]) (results_bx2 Try.results15 _ rfl rfl _ ZF.out Try.underlying29 rfl (by kernel_rfl)) rfl ⟨GA.none, rfl, GP.nil _ _ (by rw [size_sets]; simp; omega) _, below_sets (by omega) _ _ HB0.out⟩
  · rw [if_pos rfl]
    have HLS := Lib.hid (startP_len hok)
    obtain ⟨⟨b1, b2⟩, _⟩ := R.ok_iff.1 hok
    obtain ⟨q, hq⟩ : ∃ q, q = startP r := ⟨_, rfl⟩
    have HST := Lib.hid (l04Start_c _ _ r _ HAT.out (by omega) (by omega))
    rw [← hq] at HST HLS ⊢
    rw [hok] at HV
    clear hok hq
    go_enter Try.func15, Try.ntmps15
    go_wp2_with fail
    refine HV.out.mono ?_
    rintro e wv ⟨rfl, rfl⟩
    go_wp2_with fail
    refine HST.out.mono ?_
    rintro e w1 ⟨pa1, pc1, sa1, sc1, rfl, ho1, hb1⟩
    have Z1 := (H0.out.below hb1 (by simp)).allocO ((H0.out.below hb1 (by simp)).lt (by simp)) (q.cells pa1 pc1 sa1 sc1) 27
    have B1 := Lib.hid ((below_next HB0.out hb1).alloc ((below_next HB0.out hb1).size) (.cells (q.cells pa1 pc1 sa1 sc1) 27))
    have zz := hb1.size
    simp only [World.size_alloc] at zz
    have PT : P.At (w1.alloc (.cells (q.cells pa1 pc1 sa1 sc1) 27)) w1.heap.size 0 q pa1 pc1 sa1 sc1 := by
      have h9 := Bx.alloc w1 (q.cells pa1 pc1 sa1 sc1) 27 rfl
      exact ⟨h9.box 0 _ rfl, h9.box 1 _ rfl, h9.box 2 _ rfl⟩
    have HN := Lib.hid (l08New_c w.heap.size 0 w1.heap.size 0 r q pa1 sa1 pc1 sc1 (w1.alloc (.cells (q.cells pa1 pc1 sa1 sc1) 27)) ((HAT.out.below hb1 (by simp <;> omega)).below (below_alloc1 _ _) (by omega)) PT (ho1.row.below (below_alloc1 _ _) (Nat.le_refl _)) (by have := HLS.out; omega) (by have := HLS.out; omega))
    have HZ1 := Lib.hid Z1
    clear hb1 ho1 PT Z1
    go_wp2_with fail
    refine HN.out.mono ?_
    rintro e w2 ⟨A, rfl, hg, hb2⟩
    have Z2 := HZ1.out.below hb2 (HZ1.out.lt (by simp))
    have z2 := hb2.size
    simp only [World.size_alloc] at z2 hg
    have TH := Lib.hid Z2.there
    have ZF := Lib.hid (Z2.sets_all (vs := ((G.of r q).cells A).toList) rfl)
    have B2 := Lib.hid (below_next B1.out hb2)
    have HG := Lib.hid hg
    clear hb2 hg Z2 HN
    go_wp2_with (refine wpList_store_mid rfl 29 _ _ rfl _ _ ((G.of r q).cells A) rfl rfl TH.out (by kernel_rfl) (by simp [Value.oneCell', G.cells]) ?_)
    refine bodyPost_ret (v := .tuple #[(G.of r q).val A, .int .i64 0]) (results_bx2 Try.results15 _ rfl rfl _ ZF.out Try.underlying29 rfl (by kernel_rfl)) rfl ⟨A, rfl, ?_, below_sets (by omega) _ _ B2.out⟩
    rw [size_sets]
    have k9 := GP.stab _ _ _ _ w2 (w2.setCells (w.heap.size + 1) 0 ((G.of r q).cells A).toList) HG.out (fun k k1 k2 => (chg_sets _ _ _ w2).block k (by omega) (by omega))
    exact k9.le (by omega) (Nat.le_refl _)

end Go.Proofs.Yteabheocbkcmnaa
