/- The law FnTurnedMoves returns true for every argument, and every argument reads afterwards as before. No conditions. -/
import Derived.Test.YteabheocbkcmnaaView
import Derived.Test.YteabheocbkcmnaaDraw1
namespace Go.Proofs.Yteabheocbkcmnaa.lTurnedMoves
set_option linter.unusedSimpArgs false
set_option linter.unusedVariables false
set_option linter.unnecessarySimpa false
open Go.RowKit Go.ChangeShapes Go.WideShapes Go.ChangeAt Go.Joins
open Go.ChangeMaps (open_string)

set_option maxRecDepth 100000 in
set_option maxHeartbeats 16000000 in
theorem walk (ca da : Option Addr) (cc dc : Nat) (bs ds : List Int) (w : World) (hm1 : bs.length ≤ maxLen) (hm2 : ds.length ≤ maxLen) (hb : bs.length ≤ 3000 → ByteP w.heap.size ca bs w) (hd : ds.length ≤ 3000 → ByteP w.heap.size da ds w) :
    Calls Try.prog 13 #[.slice ca bs.length cc, .slice da ds.length dc] w fun e w' => e = .returned (.bool true) ∧ Below w.heap.size w w' := by
  by_cases hl : 3000 < (bs.length : Int) ∨ 3000 < (ds.length : Int)
  · have HL : (decide (3000 < (bs.length : Int)) || decide (3000 < (ds.length : Int))) = true := by simpa using hl
    clear hb hd hl
    go_enter Try.func13, Try.ntmps13
    go_wp2_with fail
    refine (a2Long_c ca da _ _ cc dc _ hm1 hm2).mono ?_
    rintro e w1 ⟨rfl, rfl⟩
    rw [HL]
    go_wp2
    go_ret
    exact ⟨rfl, Below.refl _ _⟩
  have HB := Lib.hid (hb (by omega))
  have HD := Lib.hid (hd (by omega))
  have HL : (decide (3000 < (bs.length : Int)) || decide (3000 < (ds.length : Int))) = false := by simp; omega
  clear hb hd hl
  go_enter Try.func13, Try.ntmps13
  go_wp2_with fail
  refine (a2Long_c ca da _ _ cc dc _ hm1 hm2).mono ?_
  rintro e w1 ⟨rfl, rfl⟩
  rw [HL]
  clear hm1 hm2 HL
  go_wp2_with fail
  refine (A2Position_c ca cc bs _ HB.out).mono ?_
  rintro e w2 ⟨r, p, A, rfl, hdr, hdp, ho2, hb2⟩
  have hok := hdp.ok hdr
  obtain ⟨hlo, hhi⟩ := R.ok_bd hdr.1
  obtain ⟨lp, ls⟩ := P.ok_lens hok
  obtain ⟨hc, hcm⟩ := own_caps ho2.pits
  have F2 := ((Fr.start w2).alloc r.cells 24).alloc (p.cells A.pa A.pc A.sa A.sc) 27
  have HOK := Lib.hid hok
  have HP : Hid (∀ W, Below w2.heap.size w2 W → PRow W p A.pa A.sa) := fun W hW => ho2.row.below hW (Nat.le_refl _)
  have HW : Hid (∀ W, Below w2.heap.size w2 W → Below w.heap.size w W) := fun W hW => below_next hb2 hW
  have HBD : Hid (∀ W, Below w2.heap.size w2 W → ByteP w.heap.size da ds W) := fun W hW => HD.out.keep (fun k hk => (below_next hb2 hW).block k hk)
  clear hok hb2 ho2 HB HD hdr hdp
  go_wp2_with fail
  refine (sTurnPosition_c r p HOK.out A.pa A.sa A.pc A.sc _ (HP.out _ F2.below) (by omega) (by omega) hc hcm).mono ?_
  rintro e w3 ⟨⟨ua, uc, va, vc⟩, rfl, ho3, hb3⟩
  obtain ⟨t, ht⟩ : ∃ t, t = turnP r p := ⟨_, rfl⟩
  rw [← ht] at ho3 ⊢
  have HPT : Hid (PT r p t) := by unfold Hid; rw [ht]; exact turnP_pt HOK.out
  have htok := HPT.out.ok HOK.out
  obtain ⟨lp3, ls3⟩ := P.ok_lens htok
  obtain ⟨hc3, hcm3⟩ := own_caps ho3.pits
  have F3 := (F2.step hb3).alloc (t.cells ua uc va vc) 27
  have HT : Hid (∀ W, Below w3.heap.size w3 W → PRow W t ua va) := fun W hW => ho3.row.below hW (Nat.le_refl _)
  have H23 : Hid (Below w2.heap.size w2 w3) := below_next F2.below hb3
  have HA3 := Lib.hid (⟨F3.at 2 rfl, F3.at 1 rfl, F3.at 0 rfl⟩ : _ ∧ _ ∧ _)
  have G3 := F2.step hb3
  obtain ⟨c0, c1, c2, c3, c4, c5, c6, c7, c8⟩ := R.boxc (G3.at 1 rfl)
  obtain ⟨d0, d1, d2⟩ := P.boxc (G3.at 0 rfl)
  have z3 := G3.le 0 rfl
  simp only [World.size_alloc] at d0 d1 d2 z3
  have zA3 : w2.heap.size < w3.heap.size := by omega
  have zB3 : w2.heap.size + 1 < w3.heap.size := by omega
  clear hb3 ho3 F2 ht htok G3 z3
  go_wp2_with fail
  refine (a2At_c w.heap.size da dc ds 0 r.pits _ (HBD.out _ F3.below) (by omega) (by omega) (by omega) (by omega)).mono ?_
  rintro e w4 ⟨mv, rfl, m0, m1, rfl⟩
  obtain ⟨z, hz⟩ : ∃ z, z = makeP r p mv := ⟨_, rfl⟩
  obtain ⟨y, hy⟩ : ∃ y, y = makeP r t mv := ⟨_, rfl⟩
  have HM1 := Lib.hid (fun W h => iMakeMove_c r p mv A.pa A.sa A.pc A.sc W h (by omega) (by omega) hc hcm)
  have HM2 := Lib.hid (fun W h => iMakeMove_c r t mv ua va uc vc W h (by omega) (by omega) hc3 hcm3)
  have HMT := makeP_sg HPT.out mv
  rw [← hz, ← hy] at HMT
  unfold mkmvP at HM1 HM2
  rw [← hz] at HM1
  rw [← hy, HMT.gain, HMT.code] at HM2
  have HMT := Lib.hid HMT
  have HVZ : Hid (z.code = 0 → (nxt z).ok r = true) := fun h => by rw [hz] at h ⊢; exact makeP_valid h
  have HVY : Hid (y.code = 0 → (nxt y).ok r = true) := fun h => by rw [hy] at h ⊢; exact makeP_valid h
  clear hz hy
  go_wp2_with fail
  refine (HM1.out _ (HP.out _ F3.below)).mono ?_
  rintro e w4 ⟨⟨xa, xc, za, zc⟩, rfl, ho4, hb4⟩
  have F4 := (F3.step hb4).alloc (P.cells ⟨z.pits, z.stores, z.player⟩ xa xc za zc) 27
  have HO4 := Lib.hid ho4.row
  have H34 : Hid (Below w3.heap.size w3 w4) := (below_alloc1 w3 (.cells (t.cells ua uc va vc) 27)).trans (hb4.mono (by simp))
  have G4 := F3.step hb4
  have zT4 : w3.heap.size < w4.heap.size := G4.le 0 rfl
  have zA4 : w2.heap.size < w4.heap.size := G4.le 2 rfl
  clear c0 c1 c2 c3 c4 c5 c6 c7 c8 d0 d1 d2
  obtain ⟨c0, c1, c2, c3, c4, c5, c6, c7, c8⟩ := R.boxc (G4.at 2 rfl)
  obtain ⟨d0, d1, d2⟩ := P.boxc (G4.at 0 rfl)
  clear hb4 ho4 F3 HM1 G4 zA3 zB3
  go_wp2_with fail
  refine (HM2.out _ (HT.out _ (below_next H34.out (below_alloc1 _ _)))).mono ?_
  rintro e w5 ⟨⟨ya, yc, ba, bc⟩, rfl, ho5, hb5⟩
  have F5 := (F4.step hb5).alloc (P.cells ⟨y.pits, y.stores, y.player⟩ ya yc ba bc) 27
  have HO5 := Lib.hid ho5.row
  obtain ⟨hc5, hcm5⟩ := own_caps ho5.pits
  have H45 : Hid (Below w4.heap.size w4 w5) := (below_alloc1 w4 (.cells (P.cells ⟨z.pits, z.stores, z.player⟩ xa xc za zc) 27)).trans (hb5.mono (by simp))
  have G5 := F4.step hb5
  have zA5 : w2.heap.size < w5.heap.size := G5.le 3 rfl
  clear c0 c1 c2 c3 c4 c5 c6 c7 c8 d0 d1 d2
  obtain ⟨c0, c1, c2, c3, c4, c5, c6, c7, c8⟩ := R.boxc (G5.at 3 rfl)
  clear G5 zT4 zA4
  have B5 := Lib.hid (HW.out _ F5.below)
  clear hb5 ho5 F4 HM2
  by_cases hzc : z.code = 0
  case neg =>
    have hzc' : (z.code != 0) = true := by simpa using hzc
    clear hzc
    go_wp2
    go_ret
    exact ⟨rfl, B5.out⟩
  have hyc : y.code = 0 := by rw [HMT.out.code]; exact hzc
  have hnz := HVZ.out hzc
  have hny := HVY.out hyc
  have hzz : nxt z = ⟨z.pits, z.stores, z.player⟩ := rfl
  have hyy : nxt y = ⟨y.pits, y.stores, y.player⟩ := rfl
  obtain ⟨l1, l2⟩ := P.ok_lens hnz
  obtain ⟨l3, l4⟩ := P.ok_lens hny
  have hce : turnP r (nxt y) = ⟨z.pits, z.stores, z.player⟩ := (turnP_pt hny).uniq (HMT.out.pos hzc).symm
  rw [hyy] at hny hce l3 l4
  rw [hzz] at l1 l2
  dsimp only at l1 l2 l3 l4 hc5
  have HTC := Lib.hid (fun W h => sTurnPosition_c r ⟨y.pits, y.stores, y.player⟩ hny ya ba yc bc W h (by dsimp only; omega) (by dsimp only; omega) (by dsimp only; omega) hcm5)
  rw [hce] at HTC
  have hzc' : (z.code != 0) = false := by simpa using hzc
  clear hzc hyc hnz hny hzz hyy hce HVZ HVY
  go_wp2_with fail
  refine (HTC.out _ (HO5.out.below (below_alloc1 _ _) (Nat.le_refl _))).mono ?_
  rintro e w6 ⟨⟨ea, ec, fa, fc⟩, rfl, ho6, hb6⟩
  have F6 := (F5.step hb6).alloc (P.cells ⟨z.pits, z.stores, z.player⟩ ea ec fa fc) 27
  have G6 := F5.step hb6
  have zA6 : w4.heap.size < w6.heap.size := G6.le 1 rfl
  obtain ⟨d0, d1, d2⟩ := P.boxc (G6.at 1 rfl)
  clear G6
  have H56 : Hid (Below w4.heap.size w4 (w6.alloc (.cells (P.cells ⟨z.pits, z.stores, z.player⟩ ea ec fa fc) 27))) := by
    have h1 := (below_alloc1 w5 (.cells (P.cells ⟨y.pits, y.stores, y.player⟩ ya yc ba bc) 27)).trans (hb6.mono (by simp))
    exact (H45.out.trans (h1.mono H45.out.size)).trans ((below_alloc1 w6 _).mono (Nat.le_trans H45.out.size h1.size))
  have HO6 := Lib.hid (ho6.row.below (below_alloc1 w6 (.cells (P.cells ⟨z.pits, z.stores, z.player⟩ ea ec fa fc) 27)) (Nat.le_refl _))
  have B6 := Lib.hid (HW.out _ F6.below)
  clear hb6 ho6 F5 HTC c0 c1 c2 c3 c4 c5 c6 c7 c8
  go_wp2_with fail
  refine (sSamePosition_c ⟨z.pits, z.stores, z.player⟩ ⟨z.pits, z.stores, z.player⟩ xa za ea fa xc zc ec fc _ (HO4.out.below H56.out (Nat.le_refl _)) HO6.out (by unfold maxLen; dsimp only; omega) (by unfold maxLen; dsimp only; omega) (by unfold maxLen; dsimp only; omega) (by unfold maxLen; dsimp only; omega)).mono ?_
  rintro e w7 ⟨rfl, hb7⟩
  rw [decide_eq_true rfl]
  have B7 := Lib.hid (below_next B6.out hb7)
  clear hb7 F6 d0 d1 d2
  go_wp2
  go_ret
  exact ⟨rfl, B7.out⟩

set_option maxRecDepth 100000 in
theorem contract (H : Type) (enc : TypeId × Value → H) (W : World) (base : Nat) (args : Array Value) (ds gs : List (DataW H)) (before : List MemPlace)
    (hval : ∀ (j : Nat) t v, Try.f13.params[j]? = some t → args[j]? = some v → Value.okWide Try.prog W .any base t v)
    (hW : DataW.Whole enc Try.prog Try.f13.params.toList Rows.fnTurnedMovesSpec.vars false W args.toList ds gs before) :
    Calls Try.prog 13 args W fun e W' => ∃ v, e = .returned v ∧ Rows.fnTurnedMovesSpec.post enc Try.prog Try.f13 false true false false W args v W' := by
  have hW' := hW
  obtain ⟨p, q, hA0, hV, rfl, hfz, hnd⟩ := hW
  have hA : DataW.TrodAll enc Try.prog W 0 (fun _ => true) true Try.f13.params.toList args.toList ds p := hA0
  rw [Try.params13] at hA hval
  obtain ⟨v0, vs0, d0, ds0, p0, q0, hargs, rfl, rfl, h0, r0⟩ := trodAll_cons hA
  obtain ⟨v1, vs1, d1, ds1, p1, q1, rfl, rfl, rfl, h1, r1⟩ := trodAll_cons r0
  obtain ⟨rfl, rfl, rfl⟩ := trodAll_nil r1
  obtain rfl : args = #[v0, v1] := by cases args; simp_all
  obtain ⟨ba0, bc0, bs0, rfl, w0⟩ := arg_bytes (hval 0 55 v0 rfl rfl) h0
  obtain ⟨ba1, bc1, bs1, rfl, w1⟩ := arg_bytes (hval 1 55 v1 rfl rfl) h1
  refine (walk ba0 ba1 bc0 bc1 bs0 bs1 W w0.2.1 w1.2.1 w0.2.2.2 w1.2.2.2).mono fun e W' ⟨he, hb⟩ => ?_
  subst he
  exact ⟨_, rfl, law_post hW' hb rfl rfl (by kernel_rfl) rfl⟩

set_option maxRecDepth 100000 in
theorem lifted (os : Os) (started : os.Started) (H : Type) (enc : TypeId × Value → H) :
    ReturnsInHanded {} Try.checked os 13 .any (Rows.fnTurnedMovesSpec.pre6 enc Try.prog Try.f13 Rows.fnTurnedMovesRow.domain false) (Rows.fnTurnedMovesSpec.post enc Try.prog Try.f13 false true false false) := by
  refine returnsInHanded_of_change (C := Try.checked) (s := Rows.fnTurnedMovesSpec) own started (by kernel_rfl) Try.func13
    (ChangeSpec.witness6 (enc := enc) (C := Try.checked) (s := Rows.fnTurnedMovesSpec) false ⟨#[], #[.slice none 0 0, .slice none 0 0], []⟩ 8 (by kernel_rfl) (by kernel_rfl) (by kernel_rfl) (by kernel_rfl)) ?_
  intro W base args ds gs before hval hW _ _
  exact contract H enc W base args ds gs before hval hW

theorem proved : Rows.FnTurnedMovesSaid :=
  OpenClaim.holds_of_wide 13 Try.f13 rfl rfl rfl rfl rfl rfl rfl ⟨rfl, rfl, rfl, rfl, rfl⟩ rfl rfl rfl rfl rfl (by kernel_rfl) Try.func13 (by kernel_rfl)
    (of_decide_eq_true (by kernel_rfl)) (by unfold Func.isWrapper; first | (rw [if_pos (by decide +kernel)]; kernel_rfl) | (rw [if_neg (by decide +kernel)]; exact ⟨rfl, rfl⟩))
    (fun os started H enc _ => lifted os started H enc)
end Go.Proofs.Yteabheocbkcmnaa.lTurnedMoves
