/- FcI: the facts of a move: the program's function. The contract holds for every argument, under the premises that it states. -/
import Derived.Test.YtbjgigdkbjabaaaFcK
import Derived.Test.YtbjgigdkbjabaaaMov
import Derived.Test.YtbjgigdkbjabaaaHeld
import Derived.Deep.AppendLies
namespace Go.Proofs.Ytbjgigdkbjabaaa
set_option linter.unusedSimpArgs false
set_option linter.unusedVariables false
set_option linter.unnecessarySimpa false
open Go.RowKit Go.ChangeShapes Go.WideShapes Go.ChangeAt Go.Joins

/-- a list of facts and a code -/
def FcRes2 (w : World) (y : List Fc × Int) (e : Ending) (w' : World) : Prop := ∃ (a : Option Addr) (c : Nat), e = .returned (.tuple #[.slice a y.1.length c, .int .i64 y.2]) ∧ Pcs w' w.heap.size (fcRL.pcs a c y.1) ∧ Below w.heap.size w w'
set_option maxRecDepth 100000 in
set_option maxHeartbeats 32000000 in
theorem factsOf_c (r : R) (p : P) (move : Int) (pa sa : Option Addr) (pc sc : Nat) (w : World) (h : PRow w p pa sa) (m1 : p.pits.length ≤ 16777216) (m2 : p.stores.length ≤ 16777216) (hc : p.pits.length ≤ pc) (hcm : pc ≤ maxLen) :
    Calls Try.prog 69 #[r.val, p.val pa pc sa sc, .int .i64 move] w (FcRes2 w (factsP r p move)) := by
  have F0 := ((Fr.start w).alloc r.cells 33).alloc (p.cells pa pc sa sc) 30
  have HM := Lib.hid (resultOf_c r p move pa sa pc sc _ (h.below F0.below (Nat.le_refl _)) m1 m2 hc hcm)
  obtain ⟨y, hy⟩ : ∃ y, y = makeP r p move := ⟨_, rfl⟩
  rw [← hy] at HM
  have HCY : Hid (y.code = (doneP r p move).code) := by rw [hy]; exact makeP_code r p move
  have HY := Lib.hid hy
  have HH := Lib.hid h
  clear hy h
  go_enter Try.func69, Try.ntmps69
  go_wp2_with fail
  refine HM.out.mono ?_
  rintro e w1 ⟨ua, uc, va, vc, rfl, ho, hb1⟩
  have F1 := F0.step hb1
  have F2 := F1.alloc (y.cells ua uc va vc) 144
  have BW1 := F2.below
  obtain ⟨c0, c1, c2, c3, c4, c5, c6, c7, c8⟩ := R.boxc (F1.at 1 rfl)
  obtain ⟨d0, d1, d2⟩ := P.boxc (F1.at 0 rfl)
  have zB0 : w.heap.size + 1 < w1.heap.size := by have := F1.le 0 rfl; simp at this; omega
  have zA0 : w.heap.size < w1.heap.size := by omega
  simp only [World.size_alloc] at d0 d1 d2
  clear hb1 F0 F1 HM ho
  by_cases hz : y.code = 0
  case neg =>
    have hz' : (y.code != 0) = true := by simpa using hz
    have HE : Hid (factsP r p move = ([], y.code)) := by unfold Hid; rw [HCY.out]; exact factsP_bad (by rw [← HCY.out]; exact hz)
    clear hz
    go_wp2
    go_ret2
    rw [HE.out]
    exact ⟨none, 0, rfl, fc_pcs (World.ownsRow_nil _ _ _ _), BW1⟩
  have hz' : (y.code != 0) = false := by simpa using hz
  have hd0 : (doneP r p move).code = 0 := by rw [← HCY.out]; exact hz
  obtain ⟨hc0, Lf, nf, hso⟩ := doneP_zero hd0
  have hag := again_last hd0 hso
  obtain ⟨pn, fn, t, hpn, hpn1, hfn, hfl, hpos, hbd, hB, ht1, hok, hpl, hlen, _⟩ := facts_known hc0 hso
  obtain ⟨_, _, _, tf, hBf, htf, hpof⟩ := sowP_brd hc0 hso
  rw [← HY.out] at hag
  have HE := Lib.hid (factsP_ok hd0 hso)
  have HAG := Lib.hid hag
  have HKN : Hid (p.player = pn ∧ pn ≤ 1 ∧ p.player * r.pits + move = fn ∧ fn < p.pits.length ∧ 0 < p.pits.getD fn 0 ∧ r.Bd ∧ Brd r p.pits p.stores t ∧ t ≤ 96 ∧ (lapsF r p.player fn p.pits p.stores).length ≤ 20000) := ⟨hpn, hpn1, hfn, hfl, hpos, hbd, hB, ht1, hlen⟩
  have HFN : Hid (Brd r Lf.pits Lf.stores tf ∧ tf ≤ 96 ∧ PlaceOk r Lf.last ∧ sowGo r pn 99 (lapP r pn fn p.pits p.stores []) = some (Lf, nf)) := ⟨hBf, htf, hpof, by rw [← hpn]; rw [hfn] at hso; exact hso⟩
  have ht0 : 0 ≤ t := by have := hB.sm; have := nn_sum hB.np; have := nn_sum hB.ns; omega
  have HNS := Lib.hid (fun W (H : PRow W p pa sa) => newSowing_c r p pn hpn pa sa pc sc W H m1 m2 (by omega) (by have := hB.ls; omega))
  have HMV : Hid (-1000 ≤ move ∧ move ≤ 1000) := by
    obtain ⟨_, mv, _⟩ := codeP_zero hc0
    have := hbd.hi
    unfold Hid
    omega
  obtain ⟨W1, hW1⟩ : ∃ W, W = w1.alloc (.cells (y.cells ua uc va vc) 144) := ⟨_, rfl⟩
  rw [← hW1] at F2 BW1
  clear c0 c1 c2 c3 c4 c5 c6 c7 c8 d0 d1 d2 zA0 zB0 BW1
  obtain ⟨c0, c1, c2, c3, c4, c5, c6, c7, c8⟩ := R.boxc (F2.at 2 rfl)
  obtain ⟨d0, d1, d2⟩ := P.boxc (F2.at 1 rfl)
  have yc := (F2.at 0 rfl) 2 _ rfl
  have zA : w.heap.size < W1.heap.size := F2.le 2 rfl
  have zB : w.heap.size + 1 < W1.heap.size := by have := F2.le 1 rfl; (try simp only [World.size_alloc] at this); omega
  have zR : w1.heap.size < W1.heap.size := F2.le 0 rfl
  simp only [World.size_alloc] at d0 d1 d2
  have HF2 := Lib.hid F2
  have HPW : Hid (∀ W, Below W1.heap.size W1 W → PRow W p pa sa) := fun W hW => HH.out.below (below_next F2.below hW) (Nat.le_refl _)
  have HSK : Hid (∀ W, Below W1.heap.size W1 W → (W.cell? ⟨w.heap.size, 0, none⟩ = some (.int .i64 r.pits) ∧ W.cell? ⟨w.heap.size, 1, none⟩ = some (.int .i64 r.seeds) ∧ W.cell? ⟨w.heap.size, 2, none⟩ = some (.bool r.stores) ∧ W.cell? ⟨w.heap.size, 3, none⟩ = some (.bool r.skip) ∧ W.cell? ⟨w.heap.size, 4, none⟩ = some (.bool r.relay) ∧ W.cell? ⟨w.heap.size, 5, none⟩ = some (.bool r.feed) ∧ W.cell? ⟨w.heap.size, 6, none⟩ = some (.bool r.again) ∧ W.cell? ⟨w.heap.size, 7, none⟩ = some (.int .i64 r.capture) ∧ W.cell? ⟨w.heap.size, 8, none⟩ = some (.int .i64 r.slam) ∧ W.cell? ⟨w.heap.size + 1, 0, none⟩ = some (.slice pa p.pits.length pc) ∧ W.cell? ⟨w.heap.size + 1, 1, none⟩ = some (.slice sa p.stores.length sc) ∧ W.cell? ⟨w.heap.size + 1, 2, none⟩ = some (.int .i64 p.player))) := fun W hW => ⟨((bcell hW).1 _ _ zA).trans c0, ((bcell hW).1 _ _ zA).trans c1, ((bcell hW).1 _ _ zA).trans c2, ((bcell hW).1 _ _ zA).trans c3, ((bcell hW).1 _ _ zA).trans c4, ((bcell hW).1 _ _ zA).trans c5, ((bcell hW).1 _ _ zA).trans c6, ((bcell hW).1 _ _ zA).trans c7, ((bcell hW).1 _ _ zA).trans c8, ((bcell hW).1 _ _ zB).trans d0, ((bcell hW).1 _ _ zB).trans d1, ((bcell hW).1 _ _ zB).trans d2⟩
  have HYC : Hid (∀ W, Below W1.heap.size W1 W → W.cell? ⟨w1.heap.size, 2, none⟩ = some (.bool y.again)) := fun W hW => ((bcell hW).1 _ _ zR).trans yc
  have HWW : Hid (∀ W, Below W1.heap.size W1 W → Below w.heap.size w W) := fun W hW => below_next F2.below hW
  have HW1 := Lib.hid hW1
  clear F2 hd0 hc0 hso hag hpn hpn1 hfn hfl hpos hbd hB ht1 hok hpl hlen hBf htf hpof hz yc HH
  go_upto_region 4 with fail
  rw [show w1.alloc (.cells #[.int .i64 y.move, .int .i64 y.gain, .bool y.again, .slice ua y.pits.length uc, .slice va y.stores.length vc, .int .i64 y.player] 144) = W1 from hW1.symm]
  clear hW1
  go_cut [10, 11] from 34 to 39 (fun s10 s11 wx => ∃ (tb sb pg qc sg tc : Nat) (ta : Option Addr) (tac : Nat), s10 = .pointer (some ⟨tb, 0, none⟩) ∧ s11 = .pointer (some ⟨sb, 0, none⟩) ∧ LpSt W1.heap.size W1 wx r pn tb sb pg qc sg tc ⟨p.pits, p.stores, [], 0⟩ 0 ta tac [] none 0)
  case first =>
    refine heldH (S := fun W => W.cell? ⟨w.heap.size, 0, none⟩ = some (.int .i64 r.pits) ∧ W.cell? ⟨w.heap.size, 1, none⟩ = some (.int .i64 r.seeds) ∧ W.cell? ⟨w.heap.size, 2, none⟩ = some (.bool r.stores) ∧ W.cell? ⟨w.heap.size, 3, none⟩ = some (.bool r.skip) ∧ W.cell? ⟨w.heap.size, 4, none⟩ = some (.bool r.relay) ∧ W.cell? ⟨w.heap.size, 5, none⟩ = some (.bool r.feed) ∧ W.cell? ⟨w.heap.size, 6, none⟩ = some (.bool r.again) ∧ W.cell? ⟨w.heap.size, 7, none⟩ = some (.int .i64 r.capture) ∧ W.cell? ⟨w.heap.size, 8, none⟩ = some (.int .i64 r.slam) ∧ W.cell? ⟨w.heap.size + 1, 0, none⟩ = some (.slice pa p.pits.length pc) ∧ W.cell? ⟨w.heap.size + 1, 1, none⟩ = some (.slice sa p.stores.length sc) ∧ W.cell? ⟨w.heap.size + 1, 2, none⟩ = some (.int .i64 p.player)) (n := 8) (listed := #[false, false, false, false, false, false, false, false]) (by kernel_rfl) (by rfl) (by rfl) ?_ (fun hHeld => ?_)
    (focus ((try dsimp only); (first | done | (((refine HSK.out _ ?_; first | (with_reducible exact G2.below) | (with_reducible exact G2.below.alloc G2.below.size _) | (with_reducible exact (Fr.start W1).drew.below) | (with_reducible exact ((Fr.start W1).allocF _ _).drew.below))); done))))
    (refine takeH (i := 0) (v := ?_) (by decide +kernel) (by decide +kernel) (by kernel_rfl) (by rfl) (by exact fun _ _ _ h => h) (by rfl) ?_ (by assumption) ?_); rotate_left; (focus (intro w hSw; (try dsimp only at hSw); go_simp; (try with_reducible rfl); done)); (try simp only [Act.put, List.setIfInBounds_toArray, List.set_cons_zero, List.set_cons_succ])
    (refine takeH (i := 1) (v := ?_) (by decide +kernel) (by decide +kernel) (by kernel_rfl) (by rfl) (by exact fun _ _ _ h => h) (by rfl) ?_ (by assumption) ?_); rotate_left; (focus (intro w hSw; (try dsimp only at hSw); go_simp; (try with_reducible rfl); done)); (try simp only [Act.put, List.setIfInBounds_toArray, List.set_cons_zero, List.set_cons_succ])
    (refine takeH (i := 3) (v := ?_) (by decide +kernel) (by decide +kernel) (by kernel_rfl) (by rfl) (by exact fun _ _ _ h => h) (by rfl) ?_ (by assumption) ?_); rotate_left; (focus (intro w hSw; (try dsimp only at hSw); go_simp; (try with_reducible rfl); done)); (try simp only [Act.put, List.setIfInBounds_toArray, List.set_cons_zero, List.set_cons_succ])
    (refine takeH (i := 4) (v := ?_) (by decide +kernel) (by decide +kernel) (by kernel_rfl) (by rfl) (by exact fun _ _ _ h => h) (by rfl) ?_ (by assumption) ?_); rotate_left; (focus (intro w hSw; (try dsimp only at hSw); go_simp; (try with_reducible rfl); done)); (try simp only [Act.put, List.setIfInBounds_toArray, List.set_cons_zero, List.set_cons_succ])
    refine bothH (i := 2) (j := 5) (by decide +kernel) (by rfl) (by rfl) (by rfl) (by rfl) (fun K hK => ?_) (fun K hK => ?_)
    go_simp
    (first | (go_at_call 120; (first | (refine (HNS.out _ (HPW.out _ (Fr.start W1).drew.below)).mono ?_) | (refine (HNS.out _ (HPW.out _ ((Fr.start W1).allocF #[.int .i64 r.pits, .int .i64 r.seeds, .bool r.stores, .bool r.skip, .bool r.relay, .bool r.feed, .bool r.again, .int .i64 r.capture, .int .i64 r.slam, .slice none 0 0] 157).drew.below)).mono ?_)); (rintro e w2 ⟨sb, pg, qc, sg, tc, ta, tac, rfl, hsn, hfl, hsw, how, hap, hb2⟩); (first | (have G2 := (Fr.start W1).drew.step hb2) | (have G2 := ((Fr.start W1).allocF #[.int .i64 r.pits, .int .i64 r.seeds, .bool r.stores, .bool r.skip, .bool r.relay, .bool r.feed, .bool r.again, .int .i64 r.capture, .int .i64 r.slam, .slice none 0 0] 157).drew.step hb2)); (have s2 := hb2.size); (try simp only [World.size_alloc, World.size_drew] at s2 hsn how)) | skip)
    refine hK.out _ _ ?_ (fun hHeld' => ?_)
    (focus ((try dsimp only); (first | done | (((refine HSK.out _ ?_; first | (with_reducible exact G2.below) | (with_reducible exact G2.below.alloc G2.below.size _) | (with_reducible exact (Fr.start W1).drew.below) | (with_reducible exact ((Fr.start W1).allocF _ _).drew.below))); done))))
    clear hK K hHeld
    have hHeld := hHeld'
    clear hHeld'
    (try simp only [Act.put, List.setIfInBounds_toArray, List.set_cons_zero, List.set_cons_succ])
    refine nextH (i := 5) (by decide +kernel) (by rfl) (by rfl) (fun K hK => ?_)
    go_simp
    (first | (go_at_call 120; (first | (refine (HNS.out _ (HPW.out _ (Fr.start W1).drew.below)).mono ?_) | (refine (HNS.out _ (HPW.out _ ((Fr.start W1).allocF #[.int .i64 r.pits, .int .i64 r.seeds, .bool r.stores, .bool r.skip, .bool r.relay, .bool r.feed, .bool r.again, .int .i64 r.capture, .int .i64 r.slam, .slice none 0 0] 157).drew.below)).mono ?_)); (rintro e w2 ⟨sb, pg, qc, sg, tc, ta, tac, rfl, hsn, hfl, hsw, how, hap, hb2⟩); (first | (have G2 := (Fr.start W1).drew.step hb2) | (have G2 := ((Fr.start W1).allocF #[.int .i64 r.pits, .int .i64 r.seeds, .bool r.stores, .bool r.skip, .bool r.relay, .bool r.feed, .bool r.again, .int .i64 r.capture, .int .i64 r.slam, .slice none 0 0] 157).drew.step hb2)); (have s2 := hb2.size); (try simp only [World.size_alloc, World.size_drew] at s2 hsn how)) | skip)
    refine hK.out _ _ ?_ (fun hHeld' => ?_)
    (focus ((try dsimp only); (first | done | (((refine HSK.out _ ?_; first | (with_reducible exact G2.below) | (with_reducible exact G2.below.alloc G2.below.size _) | (with_reducible exact (Fr.start W1).drew.below) | (with_reducible exact ((Fr.start W1).allocF _ _).drew.below))); done))))
    clear hK K hHeld
    have hHeld := hHeld'
    clear hHeld'
    (try simp only [Act.put, List.setIfInBounds_toArray, List.set_cons_zero, List.set_cons_succ])
    (refine takeH (i := 6) (v := ?_) (by decide +kernel) (by decide +kernel) (by kernel_rfl) (by rfl) (by exact fun _ _ _ h => h) (by rfl) ?_ (by assumption) ?_); rotate_left; (focus (intro w hSw; (try dsimp only at hSw); go_simp; (try with_reducible rfl); done)); (try simp only [Act.put, List.setIfInBounds_toArray, List.set_cons_zero, List.set_cons_succ])
    (refine takeH (i := 7) (v := ?_) (by decide +kernel) (by decide +kernel) (by kernel_rfl) (by rfl) (by exact fun _ _ _ h => h) (by rfl) ?_ (by assumption) ?_); rotate_left; (focus (intro w hSw; (try dsimp only at hSw); go_simp; (try with_reducible rfl); done)); (try simp only [Act.put, List.setIfInBounds_toArray, List.set_cons_zero, List.set_cons_succ])
    refine wpAnyH_done (by decide +kernel) ?_ _
    rotate_left
    go_simp
    (first | (go_at_call 120; (first | (refine (HNS.out _ (HPW.out _ (Fr.start W1).drew.below)).mono ?_) | (refine (HNS.out _ (HPW.out _ ((Fr.start W1).allocF #[.int .i64 r.pits, .int .i64 r.seeds, .bool r.stores, .bool r.skip, .bool r.relay, .bool r.feed, .bool r.again, .int .i64 r.capture, .int .i64 r.slam, .slice none 0 0] 157).drew.below)).mono ?_)); (rintro e w2 ⟨sb, pg, qc, sg, tc, ta, tac, rfl, hsn, hfl, hsw, how, hap, hb2⟩); (first | (have G2 := (Fr.start W1).drew.step hb2) | (have G2 := ((Fr.start W1).allocF #[.int .i64 r.pits, .int .i64 r.seeds, .bool r.stores, .bool r.skip, .bool r.relay, .bool r.feed, .bool r.again, .int .i64 r.capture, .int .i64 r.slam, .slice none 0 0] 157).drew.step hb2)); (have s2 := hb2.size); (try simp only [World.size_alloc, World.size_drew] at s2 hsn how)) | skip)
    refine hK.out _ _ ?_ (fun hHeld' => ?_)
    (focus ((try dsimp only); (first | done | (((refine HSK.out _ ?_; first | (with_reducible exact G2.below) | (with_reducible exact G2.below.alloc G2.below.size _) | (with_reducible exact (Fr.start W1).drew.below) | (with_reducible exact ((Fr.start W1).allocF _ _).drew.below))); done))))
    clear hK K hHeld
    have hHeld := hHeld'
    clear hHeld'
    (try simp only [Act.put, List.setIfInBounds_toArray, List.set_cons_zero, List.set_cons_succ])
    refine nextH (i := 2) (by decide +kernel) (by rfl) (by rfl) (fun K hK => ?_)
    go_simp
    (first | (go_at_call 120; (first | (refine (HNS.out _ (HPW.out _ (Fr.start W1).drew.below)).mono ?_) | (refine (HNS.out _ (HPW.out _ ((Fr.start W1).allocF #[.int .i64 r.pits, .int .i64 r.seeds, .bool r.stores, .bool r.skip, .bool r.relay, .bool r.feed, .bool r.again, .int .i64 r.capture, .int .i64 r.slam, .slice none 0 0] 157).drew.below)).mono ?_)); (rintro e w2 ⟨sb, pg, qc, sg, tc, ta, tac, rfl, hsn, hfl, hsw, how, hap, hb2⟩); (first | (have G2 := (Fr.start W1).drew.step hb2) | (have G2 := ((Fr.start W1).allocF #[.int .i64 r.pits, .int .i64 r.seeds, .bool r.stores, .bool r.skip, .bool r.relay, .bool r.feed, .bool r.again, .int .i64 r.capture, .int .i64 r.slam, .slice none 0 0] 157).drew.step hb2)); (have s2 := hb2.size); (try simp only [World.size_alloc, World.size_drew] at s2 hsn how)) | skip)
    refine hK.out _ _ ?_ (fun hHeld' => ?_)
    (focus ((try dsimp only); (first | done | (((refine HSK.out _ ?_; first | (with_reducible exact G2.below) | (with_reducible exact G2.below.alloc G2.below.size _) | (with_reducible exact (Fr.start W1).drew.below) | (with_reducible exact ((Fr.start W1).allocF _ _).drew.below))); done))))
    clear hK K hHeld
    have hHeld := hHeld'
    clear hHeld'
    (try simp only [Act.put, List.setIfInBounds_toArray, List.set_cons_zero, List.set_cons_succ])
    (refine takeH (i := 6) (v := ?_) (by decide +kernel) (by decide +kernel) (by kernel_rfl) (by rfl) (by exact fun _ _ _ h => h) (by rfl) ?_ (by assumption) ?_); rotate_left; (focus (intro w hSw; (try dsimp only at hSw); go_simp; (try with_reducible rfl); done)); (try simp only [Act.put, List.setIfInBounds_toArray, List.set_cons_zero, List.set_cons_succ])
    (refine takeH (i := 7) (v := ?_) (by decide +kernel) (by decide +kernel) (by kernel_rfl) (by rfl) (by exact fun _ _ _ h => h) (by rfl) ?_ (by assumption) ?_); rotate_left; (focus (intro w hSw; (try dsimp only at hSw); go_simp; (try with_reducible rfl); done)); (try simp only [Act.put, List.setIfInBounds_toArray, List.set_cons_zero, List.set_cons_succ])
    refine wpAnyH_done (by decide +kernel) ?_ _
    all_goals (try (go_wp2_with fail))
    all_goals go_meet
    all_goals clear hHeld
    · have hlt := hsn.lt
      have h1 := own_head hsn.op
      have h2 := own_head hsn.os
      have hba := below_alloc1 w2 (.cells #[.int .i64 r.pits, .int .i64 r.seeds, .bool r.stores, .bool r.skip, .bool r.relay, .bool r.feed, .bool r.again, .int .i64 r.capture, .int .i64 r.slam, .slice none 0 0] 157)
      refine ⟨w2.heap.size, sb, pg, qc, sg, tc, ta, tac, rfl, rfl, ⟨hsn.below hba, hfl.below hba, hsw.below hba, own_below how hba (Nat.le_refl _), hap, ⟨by simp [go_sem], fun o => by simp [go_sem], World.ownsRow_nil _ _ _ _, s2, fun k hk => (by cases hk)⟩, ⟨by omega, by omega, by omega⟩, fun k hk => (by cases hk), fun k hk => ⟨?_, fun e => (by cases e)⟩, below_next G2.below hba, Nat.le_refl _⟩⟩
      have := (how.lt k hk).2
      omega
    · have hlt := hsn.lt
      have h0 := hsn.nb0
      have h1 := own_head hsn.op
      have h2 := own_head hsn.os
      obtain ⟨bx, bf⟩ := G2.at 0 rfl
      have hbl := G2.below
      refine ⟨W1.heap.size, sb, pg, qc, sg, tc, ta, tac, rfl, rfl, ⟨hsn.le (by omega), hfl, hsw, ownsRow_le how (by omega), hap, ⟨bx 9 _ rfl, bf, World.ownsRow_nil _ _ _ _, Nat.le_refl _, fun k hk => (by cases hk)⟩, ⟨by omega, by omega, by omega⟩, fun k hk => (by cases hk), fun k hk => ⟨?_, fun e => (by cases e)⟩, hbl, Nat.le_refl _⟩⟩
      have := (how.lt k hk).1
      omega
  case rest =>
    obtain ⟨tb, sb, pg, qc, sg, tc, ta, tac, rfl, rfl, hst⟩ := hcut
    obtain ⟨FACTS, hFA⟩ : ∃ F, F = lapsF r pn fn p.pits p.stores := ⟨_, rfl⟩
    have HFA := Lib.hid hFA
    have HNX0 : Hid (NxtP r pn FACTS Lf ⟨p.pits, p.stores, [], 0⟩ 0 fn true []) := by
      obtain ⟨k1, k2, k3, k4, k5, k6, k7, k8, k9⟩ := HKN.out
      refine .inl ⟨rfl, 99, fn, nf, t, rfl, k4, k5, rfl, by omega, k7, ht0, k8, by simp, by simp, fun q hq => (by cases hq), HFN.out.2.2.2, ?_⟩
      rw [hFA]
      unfold lapsF
      simp
    have HPO : Hid (∀ W, Calls Try.prog 121 #[r.val, .int .i64 p.player, .int .i64 move] W fun e w' => e = .returned (.int .i64 (fn : Int)) ∧ Below W.heap.size W w') := fun W => by
      obtain ⟨k1, k2, k3, k4, k5, k6, k7, k8, k9⟩ := HKN.out
      have := pitOf_c r pn move W k6 k2 HMV.out
      rw [← k1, k3] at this
      exact this
    have HB0 := Lib.hid hst.bl
    have HS0 := Lib.hid hst
    clear hst hFA c0 c1 c2 c3 c4 c5 c6 c7 c8 d0 d1 d2
    obtain ⟨c0, c1, c2, c3, c4, c5, c6, c7, c8, d0, d1, d2⟩ := HSK.out _ HB0.out
    go_wp2_with fail
    refine (HPO.out _).mono ?_
    rintro e w3 ⟨rfl, hb3⟩
    have HS3 := Lib.hid (HS0.out.below hb3)
    clear c0 c1 c2 c3 c4 c5 c6 c7 c8 d0 d1 d2 hb3 HB0 HS0 HPO HNS
    go_wp2_with fail
    go_loopw [12, 13] (fun f m wr => ∃ (L : Lap) (laps frI : Int) (more : Bool) (ta : Option Addr) (tac : Nat) (l : List Fc) (fa : Option Addr) (fc : Nat), f = .int .i64 frI ∧ m = .bool more ∧ Hid (LpSt W1.heap.size W1 wr r pn tb sb pg qc sg tc L laps ta tac l fa fc) ∧ Hid (NxtP r pn FACTS Lf L laps frI more l)) (fun _ _ wr => lapsLeft wr sb)
    case atStart => exact ⟨_, 0, _, true, _, _, _, _, _, rfl, rfl, HS3, HNX0⟩
    case round =>
      clear HS3 HNX0
      obtain ⟨L, laps, frI, more, ta, tac, l, fa, fc, rfl, rfl, HST, HNX⟩ := hrel
      rcases HNX.out with ⟨hmt, k, gn, n, t', rfl, hgl, hgp, hlk, hl0, hLB, ht0', htt, hpl, hll, hpk, hgo, hfc⟩ | ⟨hmf, hLe, hle⟩
      · subst hmt
        obtain ⟨P, S, T, last⟩ := L
        dsimp only at hgl hgp hLB hpl hll hpk hgo hfc
        have hst := HST.out
        obtain ⟨q0, q1⟩ := (⟨hst.sn.c0, hst.sn.c1⟩ : _ ∧ _)
        have q14 := hst.sw.c14
        have hgc : wr.cell? ⟨pg, gn, none⟩ = some (.int .i64 P[gn]) := by rw [hst.sn.op.cellAt gn (by simpa using hgl)]; simp [hgl]
        have hgI : (gn : Int) < (P.length : Int) := by omega
        dsimp only at q0 q1 q14
        simp only [Nat.reduceAdd] at q0 q1
        obtain ⟨sd, hsd⟩ : ∃ x, x = P[gn] := ⟨_, rfl⟩
        rw [← hsd] at hgc
        have HSD := Lib.hid hsd
        clear hst hsd
        go_wp2_with fail
        go_region
        have hsd := HSD.out
        obtain ⟨kn1, kn2, kn3, kn4, kn5, kn6, kn7, kn8, kn9⟩ := HKN.out
        have hsdb := bdL_get (hLB.bp htt) hgl
        rw [← hsd] at hsdb
        have hgd : P.getD gn 0 = sd := by rw [hsd]; simp [hgl]
        obtain ⟨N, hN⟩ : ∃ N, N = lapP r pn gn P S T := ⟨_, rfl⟩
        have hNB := lapP_brd kn6 pn gn ⟨by omega, by omega⟩ P S T t' hLB hgl
        have hNP := lapP_places kn6 pn gn ⟨by omega, by omega⟩ P S T (.inr ⟨by omega, by have := hLB.lp; omega⟩) hpk
        have hNA : ∃ X, N.path = T ++ X := by
          obtain ⟨X, e, _⟩ := lap_run kn6 pn gn ⟨by omega, by omega⟩ P S T [] [] (.inr ⟨by omega, by have := hLB.lp; omega⟩) (by rw [Int.toNat_natCast, hgd]; rw [hgd] at hgp; exact hgp)
          exact ⟨X, by rw [hN]; exact e⟩
        rw [← hsd] at hNB
        rw [← hN] at hNB hNP hgo hfc
        rw [hgd] at hgp hfc
        have hst := HST.out.below (Below.refl wr.heap.size wr).drew
        have HLAP := Lib.hid (lapK_c (fun k => k = tb ∨ (Value.slice fa l.length fc).ownBlock = some k) W1.heap.size sb pg qc sg tc r kn6 pn gn P S T last laps ta tac _ hst.sn hst.fl hst.sw hst.ow hst.ap kn2 hLB.lp hLB.ls hgl (fun x hx => by have := (hLB.bp htt) x hx; omega) (fun x hx => by have := (hLB.bs htt) x hx; omega) ⟨fun e => by rcases e with e | e; exact hst.n1.1 e.symm; exact (hst.n2 _ e).1 rfl, fun e => by rcases e with e | e; exact hst.n1.2.1 e.symm; exact (hst.n2 _ e).2.1 rfl, fun e => by rcases e with e | e; exact hst.n1.2.2 e.symm; exact (hst.n2 _ e).2.2 rfl⟩ (fun k hk => by rcases hk with rfl | hk; exact hst.tl.lt; exact (hst.tl.ow.lt k hk).2) (fun k hk e => by rcases e with e | e; exact (hst.n3 k hk).1 e; exact (hst.n3 k hk).2 e) (by omega) ⟨hl0, by omega⟩)
        rw [← hN] at HLAP
        have HS1 := Lib.hid hst
        have HK := Lib.hid (⟨hgl, hgp, hlk, hl0, hLB, ht0', htt, hpl, hll, hpk, hgo, hfc⟩ : _ ∧ _ ∧ _ ∧ _ ∧ _ ∧ _ ∧ _ ∧ _ ∧ _ ∧ _ ∧ _ ∧ _)
        have HNF := Lib.hid (⟨hNB, hNP, hNA, hsdb, hN⟩ : _ ∧ _ ∧ _ ∧ _ ∧ _)
        clear HSD hst hgl hgp hlk hl0 hLB ht0' htt hpl hll hpk hgo hfc hNB hNP hNA hsdb hN hsd hgd q0 q1 q14 hgc hgI HNX kn1 kn2 kn3 kn4 kn5 kn6 kn7 kn8 kn9
        go_wp2_with fail
        refine HLAP.out.mono ?_
        rintro e w4 ⟨ta', tac', rfl, sn4, fl4, sw4, ow4, ap4, bk4, ak4⟩
        have hst4 := HS1.out.lap sn4 fl4 sw4 ow4 ap4 bk4 ak4
        have HS4 := Lib.hid hst4
        have q14 := sw4.c14
        clear sn4 fl4 sw4 ow4 ap4 bk4 ak4 HLAP HS1
        obtain ⟨⟨hgl, hgp, hlk, hl0, hLB, ht0', htt, hpl, hll, hpk, hgo, hfc⟩, ⟨hNB, hNP, ⟨X, hNX⟩, hsdb, hN⟩⟩ := (⟨HK.out, HNF.out⟩ : _ ∧ _)
        have hXl : N.path.length = T.length + X.length := by rw [hNX]; simp
        have hXs : (X.length : Int) = sd := by have := hNB.2.1; omega
        obtain ⟨tg, rfl, htg1, htg2⟩ := own_lt_n hst4.ow (by omega)
        have hcap := own_caps hst4.ow
        have hslo := slice_loF (some ⟨tg, 0, none⟩) N.path.length X.length T.length tac' (T.length : Int) rfl (by omega) (by omega) hcap.1 tg 0 rfl
        simp only [Nat.zero_add] at hslo
        have hIX : Ints w4 (some ⟨tg, T.length, none⟩) X := fun j v hv => by
          refine ⟨tg, T.length, rfl, ?_⟩
          have hj : j < X.length := by have := (List.getElem?_eq_some_iff.1 hv).1; simpa using this
          have h1 := hst4.ow.cellAt (T.length + j) (by omega)
          rw [h1, hNX, List.map_append, List.getElem?_append_right (by simp), List.length_map, Nat.add_sub_cancel_left]
          exact hv
        obtain ⟨kn1, kn2, kn3, kn4, kn5, kn6, kn7, kn8, kn9⟩ := HKN.out
        have hpt := kn6.hi
        have HTL := Lib.hid (tlap_c (fun k => k = sb ∨ k = pg ∨ k = sg ∨ (Value.slice (some ⟨tg, 0, none⟩) N.path.length tac').ownBlock = some k) W1.heap.size tb gn sd X (some ⟨tg, T.length, none⟩) (tac' - T.length) l fa fc w4 hst4.tl hIX (fun q hq => by have := hNP q (by rw [hNX]; exact List.mem_append_right _ hq); rcases this with h | h <;> omega) (by omega) (by omega)
          (fun e => by rcases e with e | e | e | e; exact hst4.n1.1 e; exact hst4.n1.2.1 e; exact hst4.n1.2.2 e; exact (hst4.n3 _ e).1 rfl)
          (fun k hk => by rcases hk with rfl | rfl | rfl | hk; exact hst4.sn.lt; exact (own_head hst4.sn.op).2; exact (own_head hst4.sn.os).2; exact (hst4.ow.lt k hk).2)
          (fun k hk e => by rcases e with e | e | e | e; exact (hst4.n2 k hk).1 e; exact (hst4.n2 k hk).2.1 e; exact (hst4.n2 k hk).2.2 e; exact (hst4.n3 k e).2 hk)
          (fun b o e => by cases e; exact .inr (.inr (.inr rfl))))
        have hfin : N.path.drop T.length = X := by rw [hNX, List.drop_left]
        have HNX2 : Hid (NxtP r pn FACTS Lf N (laps + 1) N.last (moreP r N) (l ++ lapF gn sd X)) := by
          refine NxtP.next (by omega) hl0 hNB.1 hNB.2.2 ht0' htt (by omega) ?_ hNP hgo ?_
          · have := (sowsF_bd (T := X) (fun q hq => by have := hNP q (by rw [hNX]; exact List.mem_append_right _ hq); rcases this with h | h <;> omega)).2
            simp only [List.length_append, lapF, List.length_cons]
            omega
          · rw [← hfin]; exact hfc
        have hlt9 : T.length < tac' := by omega
        have hne9 : ¬ tac' - T.length = 0 := by omega
        have hlo9 : T.length ≤ N.path.length := by omega
        have hlap9 : 0 ≤ laps ∧ laps ≤ 99 := ⟨hl0, by omega⟩
        clear hgl hgp hlk hl0 hLB ht0' htt hpl hll hpk hgo hfc hNB hNP hNX hsdb hN hXl hXs htg1 htg2 hcap hIX kn1 kn2 kn3 kn4 kn5 kn6 kn7 kn8 kn9 hpt hfin hst4 HK HNF
        go_wp2_with fail
        refine HTL.out.mono ?_
        rintro e w5 ⟨fa', fc', rfl, tl5, bk5, ak5⟩
        have hst5 := HS4.out.told tl5 bk5 ak5
        have HS5 := Lib.hid hst5
        have c12 := hst5.fl.c2
        have hlap5 := hst5.fl.left
        have hlap0 := HST.out.fl.left
        simp only [Nat.reduceAdd] at c12
        clear tl5 bk5 ak5 hst5 HTL hslo
        go_wp2
        go_roundw
        case rel => exact ⟨N, laps + 1, N.last, moreP r N, some ⟨tg, 0, none⟩, tac', l ++ lapF gn sd X, fa', fc', rfl, rfl, HS5, HNX2⟩
        case measure => rw [hlap5, hlap0]; omega
      · subst hmf
        subst hLe
        subst hle
        have hst := HST.out
        obtain ⟨kn1, kn2, kn3, kn4, kn5, kn6, kn7, kn8, kn9⟩ := HKN.out
        obtain ⟨fn1, fn2, fn3, _⟩ := HFN.out
        have hSS : Hid (∀ W, Below wr.heap.size wr W → (W.cell? ⟨sb, 10, none⟩ = some (.slice (some ⟨pg, 0, none⟩) L.pits.length qc) ∧ W.cell? ⟨sb, 11, none⟩ = some (.slice (some ⟨sg, 0, none⟩) L.stores.length tc) ∧ W.cell? ⟨sb, 12, none⟩ = some (.int .i64 L.last) ∧ W.cell? ⟨sb, 13, none⟩ = some (.int .i64 laps))) := fun W hW => by
          have a0 := hst.sn.c0
          have a1 := hst.sn.c1
          have a2 := hst.fl.c2
          have a3 := hst.fl.c3
          simp only [Nat.reduceAdd] at a1 a2 a3
          exact ⟨((bcell hW).1 _ _ hst.sn.lt).trans a0, ((bcell hW).1 _ _ hst.sn.lt).trans a1, ((bcell hW).1 _ _ hst.sn.lt).trans a2, ((bcell hW).1 _ _ hst.sn.lt).trans a3⟩
        have hSR : Hid (∀ W, Below wr.heap.size wr W → (W.cell? ⟨w.heap.size, 0, none⟩ = some (.int .i64 r.pits) ∧ W.cell? ⟨w.heap.size, 1, none⟩ = some (.int .i64 r.seeds) ∧ W.cell? ⟨w.heap.size, 2, none⟩ = some (.bool r.stores) ∧ W.cell? ⟨w.heap.size, 3, none⟩ = some (.bool r.skip) ∧ W.cell? ⟨w.heap.size, 4, none⟩ = some (.bool r.relay) ∧ W.cell? ⟨w.heap.size, 5, none⟩ = some (.bool r.feed) ∧ W.cell? ⟨w.heap.size, 6, none⟩ = some (.bool r.again) ∧ W.cell? ⟨w.heap.size, 7, none⟩ = some (.int .i64 r.capture) ∧ W.cell? ⟨w.heap.size, 8, none⟩ = some (.int .i64 r.slam) ∧ W.cell? ⟨w.heap.size + 1, 2, none⟩ = some (.int .i64 p.player))) := fun W hW => by
          obtain ⟨b0, b1, b2, b3, b4, b5, b6, b7, b8, _, _, b9⟩ := HSK.out W (hst.bl.trans (hW.mono hst.bl.size))
          exact ⟨b0, b1, b2, b3, b4, b5, b6, b7, b8, b9⟩
        have hcp := own_caps hst.sn.op
        have hall : allIn L.pits = true := List.all_eq_true.2 (fun x hx => inB_iff.2 ((fn1.bp fn2) x hx))
        have HRP : Hid (∀ W, Below wr.heap.size wr W → Ints W (some ⟨pg, 0, none⟩) L.pits) := fun W hW => (own_row hst.sn.op).below hW (Nat.le_refl _)
        have HCAP : Hid (∀ W, Ints W (some ⟨pg, 0, none⟩) L.pits → Calls Try.prog 124 #[r.val, snV L.pits L.stores L.last laps (some ⟨pg, 0, none⟩) qc (some ⟨sg, 0, none⟩) tc, .int .i64 p.player] W (IntsRes W (capP r p.player L.pits L.last))) := fun W hW => by
          rw [kn1]
          exact captured_c r kn6 pn kn2 L.pits L.stores L.last laps (some ⟨pg, 0, none⟩) (some ⟨sg, 0, none⟩) qc tc W hW fn1.lp fn3 hall hcp.1 hcp.2
        have HTAK : Hid (∀ W, Ints W (some ⟨pg, 0, none⟩) L.pits → Calls Try.prog 125 #[r.val, snV L.pits L.stores L.last laps (some ⟨pg, 0, none⟩) qc (some ⟨sg, 0, none⟩) tc, .int .i64 p.player] W (IntsRes W (rawP r p.player L.pits L.last))) := fun W hW => by
          rw [kn1]
          exact taken_c r kn6 pn kn2 L.pits L.stores L.last laps (some ⟨pg, 0, none⟩) (some ⟨sg, 0, none⟩) qc tc W hW fn1.lp fn3 (fun x hx => by have := (fn1.bp fn2) x hx; omega)
        obtain ⟨hck, hcl⟩ := capP_ok kn6 p.player L.pits L.last fn1.lp fn3
        obtain ⟨hrk, hrl⟩ := rawP_ok kn6 p.player L.pits L.last fn1.lp fn3
        have HE2 : Hid (factsP r p move = (l ++ capF L.pits (capP r p.player L.pits L.last) ++ spareF L.pits (capP r p.player L.pits L.last) (rawP r p.player L.pits L.last) L.last ++ endFc r L, 0)) := by
          unfold Hid
          rw [HE.out, HFA.out]
          unfold allF
          rw [kn3, kn1]
        obtain ⟨CAP, hCAP⟩ : ∃ C, C = capP r p.player L.pits L.last := ⟨_, rfl⟩
        obtain ⟨RAW, hRAW⟩ : ∃ C, C = rawP r p.player L.pits L.last := ⟨_, rfl⟩
        rw [← hCAP] at HCAP HE2 hck hcl
        rw [← hRAW] at HTAK HE2 hrk hrl
        have HPB : Hid (∀ x ∈ L.pits, 0 ≤ x ∧ x ≤ 96) := fn1.bp fn2
        have HST2 := Lib.hid hst
        have hln : l.length ≤ 20000 := by rw [HFA.out, ← kn1]; exact kn9
        have HCK := Lib.hid hck
        have HRK := Lib.hid hrk
        clear hst hcp hall kn1 kn2 kn3 kn4 kn5 kn6 kn7 kn8 kn9 fn1 fn2 fn3 hCAP hRAW hck hrk HNX HST HE HFN HKN HFA
        go_wp2_with fail
        refine heldH (S := fun W => (W.cell? ⟨w.heap.size, 0, none⟩ = some (.int .i64 r.pits) ∧ W.cell? ⟨w.heap.size, 1, none⟩ = some (.int .i64 r.seeds) ∧ W.cell? ⟨w.heap.size, 2, none⟩ = some (.bool r.stores) ∧ W.cell? ⟨w.heap.size, 3, none⟩ = some (.bool r.skip) ∧ W.cell? ⟨w.heap.size, 4, none⟩ = some (.bool r.relay) ∧ W.cell? ⟨w.heap.size, 5, none⟩ = some (.bool r.feed) ∧ W.cell? ⟨w.heap.size, 6, none⟩ = some (.bool r.again) ∧ W.cell? ⟨w.heap.size, 7, none⟩ = some (.int .i64 r.capture) ∧ W.cell? ⟨w.heap.size, 8, none⟩ = some (.int .i64 r.slam) ∧ W.cell? ⟨w.heap.size + 1, 2, none⟩ = some (.int .i64 p.player)) ∧ (W.cell? ⟨sb, 10, none⟩ = some (.slice (some ⟨pg, 0, none⟩) L.pits.length qc) ∧ W.cell? ⟨sb, 11, none⟩ = some (.slice (some ⟨sg, 0, none⟩) L.stores.length tc) ∧ W.cell? ⟨sb, 12, none⟩ = some (.int .i64 L.last) ∧ W.cell? ⟨sb, 13, none⟩ = some (.int .i64 laps))) (n := 9) (listed := #[false, false, false, false, false, false, false, false, false]) (by kernel_rfl) (by rfl) (by rfl) ?_ (fun hHeld => ?_)
        (focus ((try dsimp only); (first | done | ((first | exact ⟨hSR.out _ (Below.refl _ _).drew, hSS.out _ (Below.refl _ _).drew⟩ | exact ⟨hSR.out _ HB6.out, hSS.out _ HB6.out⟩); done))))
        (refine takeH (i := 0) (v := ?_) (by decide +kernel) (by decide +kernel) (by kernel_rfl) (by rfl) (by exact fun _ _ _ h => h) (by rfl) ?_ (by assumption) ?_); rotate_left; (focus (intro w hSw; (try dsimp only at hSw); go_simp; (try with_reducible rfl); done)); (try simp only [Act.put, List.setIfInBounds_toArray, List.set_cons_zero, List.set_cons_succ])
        (refine takeH (i := 1) (v := ?_) (by decide +kernel) (by decide +kernel) (by kernel_rfl) (by rfl) (by exact fun _ _ _ h => h) (by rfl) ?_ (by assumption) ?_); rotate_left; (focus (intro w hSw; (try dsimp only at hSw); go_simp; (try with_reducible rfl); done)); (try simp only [Act.put, List.setIfInBounds_toArray, List.set_cons_zero, List.set_cons_succ])
        (refine takeH (i := 2) (v := ?_) (by decide +kernel) (by decide +kernel) (by kernel_rfl) (by rfl) (by exact fun _ _ _ h => h) (by rfl) ?_ (by assumption) ?_); rotate_left; (focus (intro w hSw; (try dsimp only at hSw); go_simp; (try with_reducible rfl); done)); (try simp only [Act.put, List.setIfInBounds_toArray, List.set_cons_zero, List.set_cons_succ])
        (refine takeH (i := 3) (v := ?_) (by decide +kernel) (by decide +kernel) (by kernel_rfl) (by rfl) (by exact fun _ _ _ h => h) (by rfl) ?_ (by assumption) ?_); rotate_left; (focus (intro w hSw; (try dsimp only at hSw); go_simp; (try with_reducible rfl); done)); (try simp only [Act.put, List.setIfInBounds_toArray, List.set_cons_zero, List.set_cons_succ])
        (refine takeH (i := 4) (v := ?_) (by decide +kernel) (by decide +kernel) (by kernel_rfl) (by rfl) (by exact fun _ _ _ h => h) (by rfl) ?_ (by assumption) ?_); rotate_left; (focus (intro w hSw; (try dsimp only at hSw); go_simp; (try with_reducible rfl); done)); (try simp only [Act.put, List.setIfInBounds_toArray, List.set_cons_zero, List.set_cons_succ])
        (refine takeH (i := 5) (v := ?_) (by decide +kernel) (by decide +kernel) (by kernel_rfl) (by rfl) (by exact fun _ _ _ h => h) (by rfl) ?_ (by assumption) ?_); rotate_left; (focus (intro w hSw; (try dsimp only at hSw); go_simp; (try with_reducible rfl); done)); (try simp only [Act.put, List.setIfInBounds_toArray, List.set_cons_zero, List.set_cons_succ])
        (refine takeH (i := 6) (v := ?_) (by decide +kernel) (by decide +kernel) (by kernel_rfl) (by rfl) (by exact fun _ _ _ h => h) (by rfl) ?_ (by assumption) ?_); rotate_left; (focus (intro w hSw; (try dsimp only at hSw); go_simp; (try with_reducible rfl); done)); (try simp only [Act.put, List.setIfInBounds_toArray, List.set_cons_zero, List.set_cons_succ])
        refine nextH (i := 7) (by decide +kernel) (by rfl) (by rfl) (fun K hK => ?_)
        go_simp
        (first | (go_at_call 124; (refine (HCAP.out _ (HRP.out _ (Below.refl _ _).drew)).mono ?_); (rintro e w6 ⟨ka, kc, rfl, ho6, hb6⟩); (have HB6 : Hid (Below wr.heap.size wr w6) := below_next (Below.refl wr.heap.size wr).drew hb6)) | skip)
        refine hK.out _ _ ?_ (fun hHeld' => ?_)
        (focus ((try dsimp only); (first | done | ((first | exact ⟨hSR.out _ (Below.refl _ _).drew, hSS.out _ (Below.refl _ _).drew⟩ | exact ⟨hSR.out _ HB6.out, hSS.out _ HB6.out⟩); done))))
        clear hK K hHeld
        have hHeld := hHeld'
        clear hHeld'
        (try simp only [Act.put, List.setIfInBounds_toArray, List.set_cons_zero, List.set_cons_succ])
        (refine takeH (i := 8) (v := ?_) (by decide +kernel) (by decide +kernel) (by kernel_rfl) (by rfl) (by exact fun _ _ _ h => h) (by rfl) ?_ (by assumption) ?_); rotate_left; (focus (intro w hSw; (try dsimp only at hSw); go_simp; (try with_reducible rfl); done)); (try simp only [Act.put, List.setIfInBounds_toArray, List.set_cons_zero, List.set_cons_succ])
        refine wpAnyH_done (by decide +kernel) ?_ _
        clear hHeld
        have hst6 := HST2.out.below HB6.out
        have hst0 := HST2.out
        (try simp only [World.size_drew] at ho6)
        have hz6 := HB6.out.size
        obtain ⟨K3, hK3⟩ : ∃ K : Nat → Prop, K = fun k => k = sb ∨ k = pg ∨ (Value.slice ka CAP.length kc).ownBlock = some k := ⟨_, rfl⟩
        have hKL : ∀ k, K3 k → k < w6.heap.size := fun k hk => by
          rw [hK3] at hk
          rcases hk with rfl | rfl | hk
          · exact hst6.sn.lt
          · exact (own_head hst6.sn.op).2
          · exact (ho6.lt k hk).2
        have HPU0 : Hid (PuSt K3 W1.heap.size w6 w6 tb fa fc l) := by
          refine ⟨hst6.tl, BelK.refl hKL, fun k hk e => ?_, fun e => ?_⟩
          · rw [hK3] at e
            rcases e with e | e | e
            · exact (hst6.n2 k hk).1 e
            · exact (hst6.n2 k hk).2.1 e
            · have a := (hst0.tl.ow.lt k hk).2
              have b := (ho6.lt k e).1
              omega
          · rw [hK3] at e
            rcases e with e | e | e
            · exact hst6.n1.1 e
            · exact hst6.n1.2.1 e
            · have a := hst0.tl.lt
              have b := (ho6.lt tb e).1
              omega
        have HC6 : Hid (∀ W, BelK K3 W1.heap.size w6 W → (W.cell? ⟨w.heap.size, 0, none⟩ = some (.int .i64 r.pits) ∧ W.cell? ⟨w.heap.size, 1, none⟩ = some (.int .i64 r.seeds) ∧ W.cell? ⟨w.heap.size, 2, none⟩ = some (.bool r.stores) ∧ W.cell? ⟨w.heap.size, 3, none⟩ = some (.bool r.skip) ∧ W.cell? ⟨w.heap.size, 4, none⟩ = some (.bool r.relay) ∧ W.cell? ⟨w.heap.size, 5, none⟩ = some (.bool r.feed) ∧ W.cell? ⟨w.heap.size, 6, none⟩ = some (.bool r.again) ∧ W.cell? ⟨w.heap.size, 7, none⟩ = some (.int .i64 r.capture) ∧ W.cell? ⟨w.heap.size, 8, none⟩ = some (.int .i64 r.slam) ∧ W.cell? ⟨w.heap.size + 1, 2, none⟩ = some (.int .i64 p.player)) ∧ (W.cell? ⟨sb, 10, none⟩ = some (.slice (some ⟨pg, 0, none⟩) L.pits.length qc) ∧ W.cell? ⟨sb, 11, none⟩ = some (.slice (some ⟨sg, 0, none⟩) L.stores.length tc) ∧ W.cell? ⟨sb, 12, none⟩ = some (.int .i64 L.last) ∧ W.cell? ⟨sb, 13, none⟩ = some (.int .i64 laps)) ∧ Ints W (some ⟨pg, 0, none⟩) L.pits ∧ Ints W ka CAP ∧ W.cell? ⟨w1.heap.size, 2, none⟩ = some (.bool y.again) ∧ Below w.heap.size w W ∧ (∀ j, W.frozen? ⟨sb, j, none⟩ = false)) := fun W hW => by
          have hbl : Below W1.heap.size W1 W := hst6.bl.trans (hW.bel.mono (Nat.le_refl _))
          obtain ⟨b0, b1, b2, b3, b4, b5, b6, b7, b8, _, _, b9⟩ := HSK.out W hbl
          have a0 := hst6.sn.c0
          have a1 := hst6.sn.c1
          have a2 := hst6.fl.c2
          have a3 := hst6.fl.c3
          simp only [Nat.reduceAdd] at a1 a2 a3
          have ks := hW.keep sb (by rw [hK3]; exact .inl rfl)
          refine ⟨⟨b0, b1, b2, b3, b4, b5, b6, b7, b8, b9⟩, ⟨cell_stab a0 ks, cell_stab a1 ks, cell_stab a2 ks, cell_stab a3 ks⟩, ?_, ?_, HYC.out W hbl, HWW.out W hbl, fun j => (World.frozen?_of_block (w := w6) ks).trans (hst6.fl.fz j)⟩
          · exact own_row (own_keep hst6.sn.op (fun k hk => hW.keep k (by cases hk; rw [hK3]; exact .inr (.inl rfl))))
          · exact own_row (own_keep ho6 (fun k hk => hW.keep k (by rw [hK3]; exact .inr (.inr hk))))
        have HKD : Hid (K3 sb ∧ K3 pg) := by rw [hK3]; exact ⟨.inl rfl, .inr (.inl rfl)⟩
        clear hst6 hst0 hz6 hK3 hKL ho6 hb6 hSS hSR HRP HCAP HST2 HB6
        obtain ⟨i0, hi, hz0, hz1, hz2⟩ := info_partsFc infoFc
        have zW1 : w.heap.size ≤ W1.heap.size := Nat.le_of_lt zA
        clear HPW HSK HYC HWW HF2 HW1 zA zB zR
        have hCl : CAP.length ≤ 16 := hcl
        go_wp2_with fail
        go_loopw [87] (fun i wr => ∃ (j : Nat) (fa : Option Addr) (fc : Nat), i = .int .i64 (j : Int) ∧ j ≤ CAP.length ∧ Hid (PuSt K3 W1.heap.size w6 wr tb fa fc (l ++ capF L.pits (CAP.take j)))) (fun i _ => CAP.length - (intOf i).toNat)
        case atStart =>
          refine ⟨0, fa, fc, rfl, Nat.zero_le _, ?_⟩
          have e : l ++ capF L.pits (CAP.take 0) = l := by simp [capF]
          rw [e]
          exact HPU0
        case round =>
          clear HPU0
          obtain ⟨j, fa, fc, rfl, hj, HPU⟩ := hrel
          by_cases hlt : j < CAP.length
          · have hjI : (j : Int) < (CAP.length : Int) := by omega
            have hpu := HPU.out
            obtain ⟨_, ⟨a0, a1, a2, a3⟩, hrp, hrc, _, _, _⟩ := HC6.out _ hpu.bl
            obtain ⟨kb, ko, rfl, hkb, hkc⟩ := Row.at hrc (by simp; omega)
            obtain ⟨q, hq⟩ : ∃ q, q = CAP[j] := ⟨_, rfl⟩
            have hcell : wr.cell? ⟨kb, ko + j, none⟩ = some (.int .i64 q) := hkc j _ (by simp [hlt, hq])
            have hqk := HCK.out.1 q (by rw [hq]; exact List.getElem_mem hlt)
            obtain ⟨qn, rfl⟩ : ∃ qn : Nat, q = qn := ⟨q.toNat, by omega⟩
            have hqn : qn < L.pits.length := by omega
            have hqI : (qn : Int) < (L.pits.length : Int) := by omega
            obtain ⟨v, hv⟩ : ∃ v, v = L.pits[qn] := ⟨_, rfl⟩
            have qcell : wr.cell? ⟨pg, qn, none⟩ = some (.int .i64 v) := by
              obtain ⟨b', o', e', hc'⟩ := hrp qn (.int .i64 v) (by simp [hqn, hv])
              cases e'
              simpa using hc'
            have HNE : Hid (l ++ capF L.pits (CAP.take (j + 1)) = (l ++ capF L.pits (CAP.take j)) ++ [⟨3, (qn : Int), v⟩]) := by
              unfold Hid
              rw [capF_succ _ _ hlt, ← hq, List.append_assoc, hv]
              simp [hqn]
            obtain ⟨M, hM⟩ : ∃ M, M = l ++ capF L.pits (CAP.take j) := ⟨_, rfl⟩
            have hMl : M.length ≤ 30000 := by
              rw [hM]
              simp [capF]
              omega
            rw [← hM] at HPU hpu HNE
            have c9 := hpu.tl.c9
            have HBX : Hid (BoxP wr.heap.size (Fc.cells ⟨3, (qn : Int), v⟩).toList (wr.alloc (.cells (Fc.cells ⟨3, (qn : Int), v⟩) 95))) := ((Fr.start wr).alloc (Fc.cells ⟨3, (qn : Int), v⟩) 95).at 0 rfl
            have HT := Lib.hid (hpu.tl.below (below_alloc1 wr (.cells (Fc.cells ⟨3, (qn : Int), v⟩) 95)))
            have hwk : IntKind.i64.wrap ((j : Int) + 1) = (j : Int) + 1 := IntWalk.i64_in _ (by omega)
            have hbs6 : W1.heap.size ≤ wr.heap.size := Nat.le_trans hpu.tl.tb0 (Nat.le_of_lt hpu.tl.lt)
            have hKsp : K3 sb ∧ K3 pg := HKD.out
            have hn1 : ¬ tb = sb := fun e => hpu.nk (e ▸ hKsp.1)
            have hn2 : ¬ tb = pg := fun e => hpu.nk (e ▸ hKsp.2)
            have ztb := hpu.tl.lt
            have ctf := hpu.tl.fz 9
            have zsb : sb < wr.heap.size := World.block_lt_of_cell? wr _ a0
            have zpg : pg < wr.heap.size := World.block_lt_of_cell? wr _ qcell
            have HKS : Hid (∀ W : World, W.heap[sb]? = wr.heap[sb]? → W.heap[pg]? = wr.heap[pg]? → (W.cell? ⟨sb, 10, none⟩ = some (.slice (some ⟨pg, 0, none⟩) L.pits.length qc) ∧ W.cell? ⟨pg, qn, none⟩ = some (.int .i64 v))) := fun W h1 h2 => ⟨cell_stab a0 h1, cell_stab qcell h2⟩
            have HKR : Hid (∀ w7 : World, (wr.alloc (.cells (Fc.cells ⟨3, (qn : Int), v⟩) 95)).grownBy w7 (Value.slice fa M.length fc).ownBlock → w7.heap[sb]? = wr.heap[sb]? ∧ w7.heap[pg]? = wr.heap[pg]? ∧ w7.heap[tb]? = wr.heap[tb]?) := fun w7 hg => by
              refine ⟨(hg.block sb (by simp; omega) (fun e => hpu.ak sb e.symm hKsp.1)).trans (Below.heap_alloc _ _ _ zsb), (hg.block pg (by simp; omega) (fun e => hpu.ak pg e.symm hKsp.2)).trans (Below.heap_alloc _ _ _ zpg), (hg.block tb (by simp; omega) (fun e => hpu.tl.ne tb e.symm rfl)).trans (Below.heap_alloc _ _ _ ztb)⟩
            have HPU2 := Lib.hid hpu
            clear hpu hrp hrc hkc hqk hq hv hM
            go_wp2_with fail
            refine heldH (S := fun W => W.cell? ⟨sb, 10, none⟩ = some (.slice (some ⟨pg, 0, none⟩) L.pits.length qc) ∧ W.cell? ⟨pg, qn, none⟩ = some (.int .i64 v)) (n := 20) (listed := #[false, false, false, false, false, false, false, false, false, false, false, false, false, false, false, false, false, false, false, false]) (by kernel_rfl) (by rfl) (by rfl) ?_ (fun hHeld => ?_)
            (focus ((try dsimp only); (first | done | ((first | exact HKS.out _ rfl rfl | exact HKS.out _ (Below.heap_alloc _ _ _ zsb) (Below.heap_alloc _ _ _ zpg) | exact HKS.out _ e7.1 e7.2.1 | exact HKS.out _ ((set_heap _ _ (fun e => hn1 e.symm)).trans e7.1) ((set_heap _ _ (fun e => hn2 e.symm)).trans e7.2.1)); done))))
            (refine takeH (i := 0) (v := ?_) (by decide +kernel) (by decide +kernel) (by kernel_rfl) (by rfl) (by exact fun _ _ _ h => h) (by rfl) ?_ (by assumption) ?_); rotate_left; (focus (intro w hSw; (try dsimp only at hSw); go_simp; (try with_reducible rfl); done)); (try simp only [Act.put, List.setIfInBounds_toArray, List.set_cons_zero, List.set_cons_succ])
            (refine takeH (i := 1) (v := ?_) (by decide +kernel) (by decide +kernel) (by kernel_rfl) (by rfl) (by exact fun _ _ _ h => h) (by rfl) ?_ (by assumption) ?_); rotate_left; (focus (intro w hSw; (try dsimp only at hSw); go_simp; (try with_reducible rfl); done)); (try simp only [Act.put, List.setIfInBounds_toArray, List.set_cons_zero, List.set_cons_succ])
            (refine takeH (i := 2) (v := ?_) (by decide +kernel) (by decide +kernel) (by kernel_rfl) (by rfl) (by exact fun _ _ _ h => h) (by rfl) ?_ (by assumption) ?_); rotate_left; (focus (intro w hSw; (try dsimp only at hSw); go_simp; (try with_reducible rfl); done)); (try simp only [Act.put, List.setIfInBounds_toArray, List.set_cons_zero, List.set_cons_succ])
            (refine takeH (i := 3) (v := ?_) (by decide +kernel) (by decide +kernel) (by kernel_rfl) (by rfl) (by exact fun _ _ _ h => h) (by rfl) ?_ (by assumption) ?_); rotate_left; (focus (intro w hSw; (try dsimp only at hSw); go_simp; (try with_reducible rfl); done)); (try simp only [Act.put, List.setIfInBounds_toArray, List.set_cons_zero, List.set_cons_succ])
            (refine takeH (i := 5) (v := ?_) (by decide +kernel) (by decide +kernel) (by kernel_rfl) (by rfl) (by exact fun _ _ _ h => h) (by rfl) ?_ (by assumption) ?_); rotate_left; (focus (intro w hSw; (try dsimp only at hSw); go_simp; (try with_reducible rfl); done)); (try simp only [Act.put, List.setIfInBounds_toArray, List.set_cons_zero, List.set_cons_succ])
            (refine takeH (i := 6) (v := ?_) (by decide +kernel) (by decide +kernel) (by kernel_rfl) (by rfl) (by exact fun _ _ _ h => h) (by rfl) ?_ (by assumption) ?_); rotate_left; (focus (intro w hSw; (try dsimp only at hSw); go_simp; (try with_reducible rfl); done)); (try simp only [Act.put, List.setIfInBounds_toArray, List.set_cons_zero, List.set_cons_succ])
            (refine takeH (i := 7) (v := ?_) (by decide +kernel) (by decide +kernel) (by kernel_rfl) (by rfl) (by exact fun _ _ _ h => h) (by rfl) ?_ (by assumption) ?_); rotate_left; (focus (intro w hSw; (try dsimp only at hSw); go_simp; (try with_reducible rfl); done)); (try simp only [Act.put, List.setIfInBounds_toArray, List.set_cons_zero, List.set_cons_succ])
            (refine takeH (i := 8) (v := ?_) (by decide +kernel) (by decide +kernel) (by kernel_rfl) (by rfl) (by exact fun _ _ _ h => h) (by rfl) ?_ (by assumption) ?_); rotate_left; (focus (intro w hSw; (try dsimp only at hSw); go_simp; (try with_reducible rfl); done)); (try simp only [Act.put, List.setIfInBounds_toArray, List.set_cons_zero, List.set_cons_succ])
            (refine takeH (i := 9) (v := ?_) (by decide +kernel) (by decide +kernel) (by kernel_rfl) (by rfl) (by exact fun _ _ _ h => h) (by rfl) ?_ (by assumption) ?_); rotate_left; (focus (intro w hSw; (try dsimp only at hSw); go_simp; (try with_reducible rfl); done)); (try simp only [Act.put, List.setIfInBounds_toArray, List.set_cons_zero, List.set_cons_succ])
            (refine takeH (i := 10) (v := ?_) (by decide +kernel) (by decide +kernel) (by kernel_rfl) (by rfl) (by exact fun _ _ _ h => h) (by rfl) ?_ (by assumption) ?_); rotate_left; (focus (intro w hSw; (try dsimp only at hSw); go_simp; (try with_reducible rfl); done)); (try simp only [Act.put, List.setIfInBounds_toArray, List.set_cons_zero, List.set_cons_succ])
            (refine takeH (i := 11) (v := ?_) (by decide +kernel) (by decide +kernel) (by kernel_rfl) (by rfl) (by exact fun _ _ _ h => h) (by rfl) ?_ (by assumption) ?_); rotate_left; (focus (intro w hSw; (try dsimp only at hSw); go_simp; (try with_reducible rfl); done)); (try simp only [Act.put, List.setIfInBounds_toArray, List.set_cons_zero, List.set_cons_succ])
            (refine takeH (i := 12) (v := ?_) (by decide +kernel) (by decide +kernel) (by kernel_rfl) (by rfl) (by exact fun _ _ _ h => h) (by rfl) ?_ (by assumption) ?_); rotate_left; (focus (intro w hSw; (try dsimp only at hSw); go_simp; (try with_reducible rfl); done)); (try simp only [Act.put, List.setIfInBounds_toArray, List.set_cons_zero, List.set_cons_succ])
            (refine takeH (i := 13) (v := ?_) (by decide +kernel) (by decide +kernel) (by kernel_rfl) (by rfl) (by exact fun _ _ _ h => h) (by rfl) ?_ (by assumption) ?_); rotate_left; (focus (intro w hSw; (try dsimp only at hSw); go_simp; (try with_reducible rfl); done)); (try simp only [Act.put, List.setIfInBounds_toArray, List.set_cons_zero, List.set_cons_succ])
            (refine takeH (i := 14) (v := ?_) (by decide +kernel) (by decide +kernel) (by kernel_rfl) (by rfl) (by exact fun _ _ _ h => h) (by rfl) ?_ (by assumption) ?_); rotate_left; (focus (intro w hSw; (try dsimp only at hSw); go_simp; (try with_reducible rfl); done)); (try simp only [Act.put, List.setIfInBounds_toArray, List.set_cons_zero, List.set_cons_succ])
            refine bothH (i := 4) (j := 15) (by decide +kernel) (by rfl) (by rfl) (by rfl) (by rfl) (fun K hK => ?_) (fun K hK => ?_)
            go_simp
            (skip)
            refine hK.out _ _ ?_ (fun hHeld' => ?_)
            (focus ((try dsimp only); (first | done | ((first | exact HKS.out _ rfl rfl | exact HKS.out _ (Below.heap_alloc _ _ _ zsb) (Below.heap_alloc _ _ _ zpg) | exact HKS.out _ e7.1 e7.2.1 | exact HKS.out _ ((set_heap _ _ (fun e => hn1 e.symm)).trans e7.1) ((set_heap _ _ (fun e => hn2 e.symm)).trans e7.2.1)); done))))
            clear hK K hHeld
            have hHeld := hHeld'
            clear hHeld'
            (try simp only [Act.put, List.setIfInBounds_toArray, List.set_cons_zero, List.set_cons_succ])
            refine nextH (i := 15) (by decide +kernel) (by rfl) (by rfl) (fun K hK => ?_)
            go_simp
            (skip)
            refine hK.out _ _ ?_ (fun hHeld' => ?_)
            (focus ((try dsimp only); (first | done | ((first | exact HKS.out _ rfl rfl | exact HKS.out _ (Below.heap_alloc _ _ _ zsb) (Below.heap_alloc _ _ _ zpg) | exact HKS.out _ e7.1 e7.2.1 | exact HKS.out _ ((set_heap _ _ (fun e => hn1 e.symm)).trans e7.1) ((set_heap _ _ (fun e => hn2 e.symm)).trans e7.2.1)); done))))
            clear hK K hHeld
            have hHeld := hHeld'
            clear hHeld'
            (try simp only [Act.put, List.setIfInBounds_toArray, List.set_cons_zero, List.set_cons_succ])
            refine nextH (i := 16) (by decide +kernel) (by rfl) (by rfl) (fun K hK => ?_)
            ((refine wp_append_lies _ _ _ 36 rfl W1.heap.size 95 i0 (.agg #[.int .i64 0, .int .i64 0, .int .i64 0]) 3 24 Try.underlying36 hi hz0 hz1 hz2 rfl (by decide) (.slice fa M.length fc) M.length (flat fcRL.f M) rfl (World.ownsRow.drew HT.out.ow) ⟨wr.heap.size, 0, none⟩ 1 1 (Fc.cells ⟨3, (qn : Int), v⟩).toList rfl rfl (fun j u hu => by rw [addr_addT, Nat.zero_add]; exact HBX.out j u hu) (by intro u hu; simp [Fc.cells] at hu; rcases hu with rfl | rfl | rfl <;> rfl) (by decide) (by unfold maxLen; omega) (by omega) (by simp; omega) _ rfl ?_); (intro g7 c7 w7 ho7 hg7 hat7 hlt7); (have hg8 := grown_undrew hg7); (have e7 := HKR.out w7 hg8); (have k9 := cell_stab c9 e7.2.2); (have kf := (World.frozen?_of_block (w := wr) e7.2.2).trans ctf))
            refine hK.out _ _ ?_ (fun hHeld' => ?_)
            (focus ((try dsimp only); (first | done | ((first | exact HKS.out _ rfl rfl | exact HKS.out _ (Below.heap_alloc _ _ _ zsb) (Below.heap_alloc _ _ _ zpg) | exact HKS.out _ e7.1 e7.2.1 | exact HKS.out _ ((set_heap _ _ (fun e => hn1 e.symm)).trans e7.1) ((set_heap _ _ (fun e => hn2 e.symm)).trans e7.2.1)); done))))
            clear hK K hHeld
            have hHeld := hHeld'
            clear hHeld'
            (try simp only [Act.put, List.setIfInBounds_toArray, List.set_cons_zero, List.set_cons_succ])
            (refine takeH (i := 17) (v := ?_) (by decide +kernel) (by decide +kernel) (by kernel_rfl) (by rfl) (by exact fun _ _ _ h => h) (by rfl) ?_ (by assumption) ?_); rotate_left; (focus (intro w hSw; (try dsimp only at hSw); go_simp; (try with_reducible rfl); done)); (try simp only [Act.put, List.setIfInBounds_toArray, List.set_cons_zero, List.set_cons_succ])
            (refine takeH (i := 18) (v := ?_) (by decide +kernel) (by decide +kernel) (by kernel_rfl) (by rfl) (by exact fun _ _ _ h => h) (by rfl) ?_ (by assumption) ?_); rotate_left; (focus (intro w hSw; (try dsimp only at hSw); go_simp; (try with_reducible rfl); done)); (try simp only [Act.put, List.setIfInBounds_toArray, List.set_cons_zero, List.set_cons_succ])
            refine nextH (i := 19) (by decide +kernel) (by rfl) (by rfl) (fun K hK => ?_)
            go_simp
            (skip)
            refine hK.out _ _ ?_ (fun hHeld' => ?_)
            (focus ((try dsimp only); (first | done | ((first | exact HKS.out _ rfl rfl | exact HKS.out _ (Below.heap_alloc _ _ _ zsb) (Below.heap_alloc _ _ _ zpg) | exact HKS.out _ e7.1 e7.2.1 | exact HKS.out _ ((set_heap _ _ (fun e => hn1 e.symm)).trans e7.1) ((set_heap _ _ (fun e => hn2 e.symm)).trans e7.2.1)); done))))
            clear hK K hHeld
            have hHeld := hHeld'
            clear hHeld'
            (try simp only [Act.put, List.setIfInBounds_toArray, List.set_cons_zero, List.set_cons_succ])
            refine wpAnyH_done (by decide +kernel) ?_ _
            rotate_left
            go_simp
            (skip)
            refine hK.out _ _ ?_ (fun hHeld' => ?_)
            (focus ((try dsimp only); (first | done | ((first | exact HKS.out _ rfl rfl | exact HKS.out _ (Below.heap_alloc _ _ _ zsb) (Below.heap_alloc _ _ _ zpg) | exact HKS.out _ e7.1 e7.2.1 | exact HKS.out _ ((set_heap _ _ (fun e => hn1 e.symm)).trans e7.1) ((set_heap _ _ (fun e => hn2 e.symm)).trans e7.2.1)); done))))
            clear hK K hHeld
            have hHeld := hHeld'
            clear hHeld'
            (try simp only [Act.put, List.setIfInBounds_toArray, List.set_cons_zero, List.set_cons_succ])
            refine nextH (i := 4) (by decide +kernel) (by rfl) (by rfl) (fun K hK => ?_)
            go_simp
            (skip)
            refine hK.out _ _ ?_ (fun hHeld' => ?_)
            (focus ((try dsimp only); (first | done | ((first | exact HKS.out _ rfl rfl | exact HKS.out _ (Below.heap_alloc _ _ _ zsb) (Below.heap_alloc _ _ _ zpg) | exact HKS.out _ e7.1 e7.2.1 | exact HKS.out _ ((set_heap _ _ (fun e => hn1 e.symm)).trans e7.1) ((set_heap _ _ (fun e => hn2 e.symm)).trans e7.2.1)); done))))
            clear hK K hHeld
            have hHeld := hHeld'
            clear hHeld'
            (try simp only [Act.put, List.setIfInBounds_toArray, List.set_cons_zero, List.set_cons_succ])
            refine nextH (i := 16) (by decide +kernel) (by rfl) (by rfl) (fun K hK => ?_)
            ((refine wp_append_lies _ _ _ 36 rfl W1.heap.size 95 i0 (.agg #[.int .i64 0, .int .i64 0, .int .i64 0]) 3 24 Try.underlying36 hi hz0 hz1 hz2 rfl (by decide) (.slice fa M.length fc) M.length (flat fcRL.f M) rfl (World.ownsRow.drew HT.out.ow) ⟨wr.heap.size, 0, none⟩ 1 1 (Fc.cells ⟨3, (qn : Int), v⟩).toList rfl rfl (fun j u hu => by rw [addr_addT, Nat.zero_add]; exact HBX.out j u hu) (by intro u hu; simp [Fc.cells] at hu; rcases hu with rfl | rfl | rfl <;> rfl) (by decide) (by unfold maxLen; omega) (by omega) (by simp; omega) _ rfl ?_); (intro g7 c7 w7 ho7 hg7 hat7 hlt7); (have hg8 := grown_undrew hg7); (have e7 := HKR.out w7 hg8); (have k9 := cell_stab c9 e7.2.2); (have kf := (World.frozen?_of_block (w := wr) e7.2.2).trans ctf))
            refine hK.out _ _ ?_ (fun hHeld' => ?_)
            (focus ((try dsimp only); (first | done | ((first | exact HKS.out _ rfl rfl | exact HKS.out _ (Below.heap_alloc _ _ _ zsb) (Below.heap_alloc _ _ _ zpg) | exact HKS.out _ e7.1 e7.2.1 | exact HKS.out _ ((set_heap _ _ (fun e => hn1 e.symm)).trans e7.1) ((set_heap _ _ (fun e => hn2 e.symm)).trans e7.2.1)); done))))
            clear hK K hHeld
            have hHeld := hHeld'
            clear hHeld'
            (try simp only [Act.put, List.setIfInBounds_toArray, List.set_cons_zero, List.set_cons_succ])
            (refine takeH (i := 17) (v := ?_) (by decide +kernel) (by decide +kernel) (by kernel_rfl) (by rfl) (by exact fun _ _ _ h => h) (by rfl) ?_ (by assumption) ?_); rotate_left; (focus (intro w hSw; (try dsimp only at hSw); go_simp; (try with_reducible rfl); done)); (try simp only [Act.put, List.setIfInBounds_toArray, List.set_cons_zero, List.set_cons_succ])
            (refine takeH (i := 18) (v := ?_) (by decide +kernel) (by decide +kernel) (by kernel_rfl) (by rfl) (by exact fun _ _ _ h => h) (by rfl) ?_ (by assumption) ?_); rotate_left; (focus (intro w hSw; (try dsimp only at hSw); go_simp; (try with_reducible rfl); done)); (try simp only [Act.put, List.setIfInBounds_toArray, List.set_cons_zero, List.set_cons_succ])
            refine nextH (i := 19) (by decide +kernel) (by rfl) (by rfl) (fun K hK => ?_)
            go_simp
            (skip)
            refine hK.out _ _ ?_ (fun hHeld' => ?_)
            (focus ((try dsimp only); (first | done | ((first | exact HKS.out _ rfl rfl | exact HKS.out _ (Below.heap_alloc _ _ _ zsb) (Below.heap_alloc _ _ _ zpg) | exact HKS.out _ e7.1 e7.2.1 | exact HKS.out _ ((set_heap _ _ (fun e => hn1 e.symm)).trans e7.1) ((set_heap _ _ (fun e => hn2 e.symm)).trans e7.2.1)); done))))
            clear hK K hHeld
            have hHeld := hHeld'
            clear hHeld'
            (try simp only [Act.put, List.setIfInBounds_toArray, List.set_cons_zero, List.set_cons_succ])
            refine wpAnyH_done (by decide +kernel) ?_ _
            all_goals
              have HNXT : Hid (PuSt K3 W1.heap.size w6 (w7.setCell ⟨tb, 9, none⟩ (.slice (some ⟨g7, 0, none⟩) (M.length + 1) c7)) tb (some ⟨g7, 0, none⟩) c7 (l ++ capF L.pits (CAP.take (j + 1)))) := by
                unfold Hid
                rw [HNE.out]
                exact HPU2.out.push hg8 ho7 (fun k hk => by
                  cases hk
                  rcases hat7 with h | h
                  · exact .inl h
                  · refine .inr ?_
                    have h9 : g7 = wr.heap.size + 1 := by simpa using h
                    show wr.heap.size + 1 ≤ g7
                    omega)
              clear hHeld ho7 hg7 hat7 hlt7 hg8 e7 k9 kf
              go_wp2
              go_roundw
              case rel => exact ⟨j + 1, _, _, by go_num, by omega, HNXT⟩
              case measure => simp [intOf]; omega
          · have hje : j = CAP.length := by omega
            have hjI : ¬ (j : Int) < (CAP.length : Int) := by omega
            rw [hje, List.take_length] at HPU
            obtain ⟨M, hM⟩ : ∃ M, M = l ++ capF L.pits CAP := ⟨_, rfl⟩
            have hMl : M.length ≤ 30000 := by rw [hM]; simp [capF]; omega
            rw [← hM] at HPU HE2
            obtain ⟨wB, hwB⟩ : ∃ W, W = wr := ⟨_, rfl⟩
            have HTKN : Hid (∀ W, BelK K3 W1.heap.size w6 W → (W.cell? ⟨w.heap.size, 0, none⟩ = some (.int .i64 r.pits) ∧ W.cell? ⟨w.heap.size, 1, none⟩ = some (.int .i64 r.seeds) ∧ W.cell? ⟨w.heap.size, 2, none⟩ = some (.bool r.stores) ∧ W.cell? ⟨w.heap.size, 3, none⟩ = some (.bool r.skip) ∧ W.cell? ⟨w.heap.size, 4, none⟩ = some (.bool r.relay) ∧ W.cell? ⟨w.heap.size, 5, none⟩ = some (.bool r.feed) ∧ W.cell? ⟨w.heap.size, 6, none⟩ = some (.bool r.again) ∧ W.cell? ⟨w.heap.size, 7, none⟩ = some (.int .i64 r.capture) ∧ W.cell? ⟨w.heap.size, 8, none⟩ = some (.int .i64 r.slam) ∧ W.cell? ⟨w.heap.size + 1, 2, none⟩ = some (.int .i64 p.player)) ∧ (W.cell? ⟨sb, 10, none⟩ = some (.slice (some ⟨pg, 0, none⟩) L.pits.length qc) ∧ W.cell? ⟨sb, 11, none⟩ = some (.slice (some ⟨sg, 0, none⟩) L.stores.length tc) ∧ W.cell? ⟨sb, 12, none⟩ = some (.int .i64 L.last) ∧ W.cell? ⟨sb, 13, none⟩ = some (.int .i64 laps))) := fun W hW => ⟨(HC6.out W hW).1, (HC6.out W hW).2.1⟩
            have hbk := HPU.out.bl
            have HBD : Hid (∀ W, Below wr.heap.size wr W → BelK K3 W1.heap.size w6 W) := fun W hW => hbk.below (Nat.le_trans HPU.out.tl.tb0 (Nat.le_of_lt HPU.out.tl.lt)) hW
            clear hbk hM hje hj hlt hwB
            go_wp2_with fail
            refine heldH (S := fun W => (W.cell? ⟨w.heap.size, 0, none⟩ = some (.int .i64 r.pits) ∧ W.cell? ⟨w.heap.size, 1, none⟩ = some (.int .i64 r.seeds) ∧ W.cell? ⟨w.heap.size, 2, none⟩ = some (.bool r.stores) ∧ W.cell? ⟨w.heap.size, 3, none⟩ = some (.bool r.skip) ∧ W.cell? ⟨w.heap.size, 4, none⟩ = some (.bool r.relay) ∧ W.cell? ⟨w.heap.size, 5, none⟩ = some (.bool r.feed) ∧ W.cell? ⟨w.heap.size, 6, none⟩ = some (.bool r.again) ∧ W.cell? ⟨w.heap.size, 7, none⟩ = some (.int .i64 r.capture) ∧ W.cell? ⟨w.heap.size, 8, none⟩ = some (.int .i64 r.slam) ∧ W.cell? ⟨w.heap.size + 1, 2, none⟩ = some (.int .i64 p.player)) ∧ (W.cell? ⟨sb, 10, none⟩ = some (.slice (some ⟨pg, 0, none⟩) L.pits.length qc) ∧ W.cell? ⟨sb, 11, none⟩ = some (.slice (some ⟨sg, 0, none⟩) L.stores.length tc) ∧ W.cell? ⟨sb, 12, none⟩ = some (.int .i64 L.last) ∧ W.cell? ⟨sb, 13, none⟩ = some (.int .i64 laps))) (n := 9) (listed := #[false, false, false, false, false, false, false, false, false]) (by kernel_rfl) (by rfl) (by rfl) ?_ (fun hHeld => ?_)
            (focus ((try dsimp only); (first | done | ((first | exact HTKN.out _ (HBD.out _ (Below.refl _ _).drew) | exact HTKN.out _ (HBD.out _ HB8.out)); done))))
            (refine takeH (i := 0) (v := ?_) (by decide +kernel) (by decide +kernel) (by kernel_rfl) (by rfl) (by exact fun _ _ _ h => h) (by rfl) ?_ (by assumption) ?_); rotate_left; (focus (intro w hSw; (try dsimp only at hSw); go_simp; (try with_reducible rfl); done)); (try simp only [Act.put, List.setIfInBounds_toArray, List.set_cons_zero, List.set_cons_succ])
            (refine takeH (i := 1) (v := ?_) (by decide +kernel) (by decide +kernel) (by kernel_rfl) (by rfl) (by exact fun _ _ _ h => h) (by rfl) ?_ (by assumption) ?_); rotate_left; (focus (intro w hSw; (try dsimp only at hSw); go_simp; (try with_reducible rfl); done)); (try simp only [Act.put, List.setIfInBounds_toArray, List.set_cons_zero, List.set_cons_succ])
            (refine takeH (i := 2) (v := ?_) (by decide +kernel) (by decide +kernel) (by kernel_rfl) (by rfl) (by exact fun _ _ _ h => h) (by rfl) ?_ (by assumption) ?_); rotate_left; (focus (intro w hSw; (try dsimp only at hSw); go_simp; (try with_reducible rfl); done)); (try simp only [Act.put, List.setIfInBounds_toArray, List.set_cons_zero, List.set_cons_succ])
            (refine takeH (i := 3) (v := ?_) (by decide +kernel) (by decide +kernel) (by kernel_rfl) (by rfl) (by exact fun _ _ _ h => h) (by rfl) ?_ (by assumption) ?_); rotate_left; (focus (intro w hSw; (try dsimp only at hSw); go_simp; (try with_reducible rfl); done)); (try simp only [Act.put, List.setIfInBounds_toArray, List.set_cons_zero, List.set_cons_succ])
            (refine takeH (i := 4) (v := ?_) (by decide +kernel) (by decide +kernel) (by kernel_rfl) (by rfl) (by exact fun _ _ _ h => h) (by rfl) ?_ (by assumption) ?_); rotate_left; (focus (intro w hSw; (try dsimp only at hSw); go_simp; (try with_reducible rfl); done)); (try simp only [Act.put, List.setIfInBounds_toArray, List.set_cons_zero, List.set_cons_succ])
            (refine takeH (i := 5) (v := ?_) (by decide +kernel) (by decide +kernel) (by kernel_rfl) (by rfl) (by exact fun _ _ _ h => h) (by rfl) ?_ (by assumption) ?_); rotate_left; (focus (intro w hSw; (try dsimp only at hSw); go_simp; (try with_reducible rfl); done)); (try simp only [Act.put, List.setIfInBounds_toArray, List.set_cons_zero, List.set_cons_succ])
            (refine takeH (i := 6) (v := ?_) (by decide +kernel) (by decide +kernel) (by kernel_rfl) (by rfl) (by exact fun _ _ _ h => h) (by rfl) ?_ (by assumption) ?_); rotate_left; (focus (intro w hSw; (try dsimp only at hSw); go_simp; (try with_reducible rfl); done)); (try simp only [Act.put, List.setIfInBounds_toArray, List.set_cons_zero, List.set_cons_succ])
            refine nextH (i := 7) (by decide +kernel) (by rfl) (by rfl) (fun K hK => ?_)
            go_simp
            (first | (go_at_call 125; (refine (HTAK.out _ (HC6.out _ (HBD.out _ (Below.refl _ _).drew)).2.2.1).mono ?_); (rintro e w8 ⟨ra, rc, rfl, ho8, hb8⟩); (have HB8 : Hid (Below wr.heap.size wr w8) := below_next (Below.refl wr.heap.size wr).drew hb8)) | skip)
            refine hK.out _ _ ?_ (fun hHeld' => ?_)
            (focus ((try dsimp only); (first | done | ((first | exact HTKN.out _ (HBD.out _ (Below.refl _ _).drew) | exact HTKN.out _ (HBD.out _ HB8.out)); done))))
            clear hK K hHeld
            have hHeld := hHeld'
            clear hHeld'
            (try simp only [Act.put, List.setIfInBounds_toArray, List.set_cons_zero, List.set_cons_succ])
            (refine takeH (i := 8) (v := ?_) (by decide +kernel) (by decide +kernel) (by kernel_rfl) (by rfl) (by exact fun _ _ _ h => h) (by rfl) ?_ (by assumption) ?_); rotate_left; (focus (intro w hSw; (try dsimp only at hSw); go_simp; (try with_reducible rfl); done)); (try simp only [Act.put, List.setIfInBounds_toArray, List.set_cons_zero, List.set_cons_succ])
            refine wpAnyH_done (by decide +kernel) ?_ _
            clear hHeld
            -- END
            (try simp only [World.size_drew] at ho8)
            have HPU8 := Lib.hid (HPU.out.below HB8.out)
            have HRR : Hid (∀ W, Below w8.heap.size w8 W → Ints W ra RAW) := fun W hW => (own_row ho8).below hW (Nat.le_refl _)
            have hz6 : w6.heap.size ≤ w8.heap.size := HPU8.out.bl.bel.size
            clear hb8 ho8 HTAK HB8 HPU HBD HTKN
            by_cases hca : CAP = [] ∧ ¬ RAW = []
            · obtain ⟨hc0, hr0⟩ := hca
              have HSP : Hid (spareF L.pits CAP RAW L.last = [⟨4, L.last, gainP L.pits RAW⟩]) := if_pos ⟨hc0, hr0⟩
              have hrp0 : (0 : Int) < (RAW.length : Int) := by
                have : 0 < RAW.length := List.length_pos_iff.2 hr0
                omega
              have hcl0 : CAP.length = 0 := by rw [hc0]; rfl
              have hci0 : ((CAP.length : Int) == 0) = true := by rw [hcl0]; rfl
              clear hc0 hr0
              go_wp2_with fail
              go_loopw [20, 129] (fun s i wr => ∃ (j : Nat), i = .int .i64 (j : Int) ∧ s = .int .i64 (gainP L.pits (RAW.take j)) ∧ j ≤ RAW.length ∧ Hid (Below w8.heap.size w8 wr)) (fun _ i _ => RAW.length - (intOf i).toNat)
              case atStart => exact ⟨0, rfl, rfl, Nat.zero_le _, Lib.hid (Below.refl _ _)⟩
              case round =>
                obtain ⟨j, rfl, rfl, hj, HBW⟩ := hrel
                have hpu := HPU8.out.below HBW.out
                obtain ⟨_, ⟨a0, a1, a2, a3⟩, hrp, _, _, _, _⟩ := HC6.out _ hpu.bl
                by_cases hlt : j < RAW.length
                · have hjI : (j : Int) < (RAW.length : Int) := by omega
                  obtain ⟨kb, ko, rfl, hkb, hkc⟩ := Row.at (HRR.out _ HBW.out) (by simp; omega)
                  obtain ⟨q, hq⟩ : ∃ q, q = RAW[j] := ⟨_, rfl⟩
                  have hcell : wr.cell? ⟨kb, ko + j, none⟩ = some (.int .i64 q) := hkc j _ (by simp [hlt, hq])
                  have hqk := HRK.out.1 q (by rw [hq]; exact List.getElem_mem hlt)
                  obtain ⟨qn, rfl⟩ : ∃ qn : Nat, q = qn := ⟨q.toNat, by omega⟩
                  have hqn : qn < L.pits.length := by omega
                  have hqI : (qn : Int) < (L.pits.length : Int) := by omega
                  obtain ⟨v, hv⟩ : ∃ v, v = L.pits[qn] := ⟨_, rfl⟩
                  have qcell : wr.cell? ⟨pg, qn, none⟩ = some (.int .i64 v) := by
                    obtain ⟨b', o', e', hc'⟩ := hrp qn (.int .i64 v) (by simp [hqn, hv])
                    cases e'
                    simpa using hc'
                  have HG : Hid (gainP L.pits (RAW.take (j + 1)) = gainP L.pits (RAW.take j) + v) := by
                    unfold Hid
                    rw [gainP_succ _ _ hlt, ← hq, hv]
                    simp [hqn]
                  have hgb := gainP_bd (P := L.pits) (m := 96) HPB.out (by omega) (RAW.take j)
                  have hvb := HPB.out v (by rw [hv]; exact List.getElem_mem hqn)
                  have htl : (RAW.take j).length ≤ 16 := by rw [List.length_take]; omega
                  obtain ⟨G, hG⟩ : ∃ G, G = gainP L.pits (RAW.take j) := ⟨_, rfl⟩
                  rw [← hG] at HG hgb
                  rw [← hG]
                  have hwg : IntKind.i64.wrap (G + v) = G + v := IntWalk.i64_in _ (by omega)
                  have hwk : IntKind.i64.wrap ((j : Int) + 1) = (j : Int) + 1 := IntWalk.i64_in _ (by omega)
                  clear hpu hrp hkc hqk hq hv hgb hvb htl hG
                  go_wp2
                  go_roundw
                  case rel => exact ⟨j + 1, by go_num, by rw [HG.out], by omega, HBW⟩
                  case measure => simp [intOf]; omega
                · have hje : j = RAW.length := by omega
                  have hjI : ¬ (j : Int) < (RAW.length : Int) := by omega
                  rw [hje, List.take_length]
                  obtain ⟨G, hG⟩ : ∃ G, G = gainP L.pits RAW := ⟨_, rfl⟩
                  rw [← hG] at HSP
                  rw [← hG]
                  have hKsp := HKD.out
                  have hn1 : ¬ tb = sb := fun e => hpu.nk (e ▸ hKsp.1)
                  have ztb := hpu.tl.lt
                  have ctf := hpu.tl.fz 9
                  have c9 := hpu.tl.c9
                  have zsb : sb < wr.heap.size := World.block_lt_of_cell? wr _ a0
                  have hbs6 : W1.heap.size ≤ wr.heap.size := Nat.le_trans hpu.tl.tb0 (Nat.le_of_lt hpu.tl.lt)
                  have HBX : Hid (BoxP wr.heap.size (Fc.cells ⟨4, L.last, G⟩).toList (wr.alloc (.cells (Fc.cells ⟨4, L.last, G⟩) 95))) := ((Fr.start wr).alloc (Fc.cells ⟨4, L.last, G⟩) 95).at 0 rfl
                  have HT := Lib.hid (hpu.tl.below (below_alloc1 wr (.cells (Fc.cells ⟨4, L.last, G⟩) 95)))
                  have HKS : Hid (∀ W : World, W.heap[sb]? = wr.heap[sb]? → W.cell? ⟨sb, 12, none⟩ = some (.int .i64 L.last)) := fun W h1 => cell_stab a2 h1
                  have HKR : Hid (∀ w7 : World, (wr.alloc (.cells (Fc.cells ⟨4, L.last, G⟩) 95)).grownBy w7 (Value.slice fa M.length fc).ownBlock → w7.heap[sb]? = wr.heap[sb]? ∧ w7.heap[tb]? = wr.heap[tb]?) := fun w7 hg =>
                    ⟨(hg.block sb (by simp; omega) (fun e => hpu.ak sb e.symm hKsp.1)).trans (Below.heap_alloc _ _ _ zsb), (hg.block tb (by simp; omega) (fun e => hpu.tl.ne tb e.symm rfl)).trans (Below.heap_alloc _ _ _ ztb)⟩
                  have HPU2 := Lib.hid hpu
                  clear hpu hrp hje hj hlt hG a0 a1 a3
                  go_wp2_with fail
                  refine heldH (S := fun W => W.cell? ⟨sb, 12, none⟩ = some (.int .i64 L.last)) (n := 17) (listed := #[false, false, false, false, false, false, false, false, false, false, false, false, false, false, false, false, false]) (by kernel_rfl) (by rfl) (by rfl) ?_ (fun hHeld => ?_)
                  (focus ((try dsimp only); (first | done | ((first | exact HKS.out _ rfl | exact HKS.out _ (Below.heap_alloc _ _ _ zsb) | exact HKS.out _ e7.1 | exact HKS.out _ ((set_heap _ _ (fun e => hn1 e.symm)).trans e7.1)); done))))
                  (refine takeH (i := 0) (v := ?_) (by decide +kernel) (by decide +kernel) (by kernel_rfl) (by rfl) (by exact fun _ _ _ h => h) (by rfl) ?_ (by assumption) ?_); rotate_left; (focus (intro w hSw; (try dsimp only at hSw); go_simp; (try with_reducible rfl); done)); (try simp only [Act.put, List.setIfInBounds_toArray, List.set_cons_zero, List.set_cons_succ])
                  (refine takeH (i := 1) (v := ?_) (by decide +kernel) (by decide +kernel) (by kernel_rfl) (by rfl) (by exact fun _ _ _ h => h) (by rfl) ?_ (by assumption) ?_); rotate_left; (focus (intro w hSw; (try dsimp only at hSw); go_simp; (try with_reducible rfl); done)); (try simp only [Act.put, List.setIfInBounds_toArray, List.set_cons_zero, List.set_cons_succ])
                  (refine takeH (i := 2) (v := ?_) (by decide +kernel) (by decide +kernel) (by kernel_rfl) (by rfl) (by exact fun _ _ _ h => h) (by rfl) ?_ (by assumption) ?_); rotate_left; (focus (intro w hSw; (try dsimp only at hSw); go_simp; (try with_reducible rfl); done)); (try simp only [Act.put, List.setIfInBounds_toArray, List.set_cons_zero, List.set_cons_succ])
                  (refine takeH (i := 3) (v := ?_) (by decide +kernel) (by decide +kernel) (by kernel_rfl) (by rfl) (by exact fun _ _ _ h => h) (by rfl) ?_ (by assumption) ?_); rotate_left; (focus (intro w hSw; (try dsimp only at hSw); go_simp; (try with_reducible rfl); done)); (try simp only [Act.put, List.setIfInBounds_toArray, List.set_cons_zero, List.set_cons_succ])
                  (refine takeH (i := 5) (v := ?_) (by decide +kernel) (by decide +kernel) (by kernel_rfl) (by rfl) (by exact fun _ _ _ h => h) (by rfl) ?_ (by assumption) ?_); rotate_left; (focus (intro w hSw; (try dsimp only at hSw); go_simp; (try with_reducible rfl); done)); (try simp only [Act.put, List.setIfInBounds_toArray, List.set_cons_zero, List.set_cons_succ])
                  (refine takeH (i := 6) (v := ?_) (by decide +kernel) (by decide +kernel) (by kernel_rfl) (by rfl) (by exact fun _ _ _ h => h) (by rfl) ?_ (by assumption) ?_); rotate_left; (focus (intro w hSw; (try dsimp only at hSw); go_simp; (try with_reducible rfl); done)); (try simp only [Act.put, List.setIfInBounds_toArray, List.set_cons_zero, List.set_cons_succ])
                  (refine takeH (i := 7) (v := ?_) (by decide +kernel) (by decide +kernel) (by kernel_rfl) (by rfl) (by exact fun _ _ _ h => h) (by rfl) ?_ (by assumption) ?_); rotate_left; (focus (intro w hSw; (try dsimp only at hSw); go_simp; (try with_reducible rfl); done)); (try simp only [Act.put, List.setIfInBounds_toArray, List.set_cons_zero, List.set_cons_succ])
                  (refine takeH (i := 8) (v := ?_) (by decide +kernel) (by decide +kernel) (by kernel_rfl) (by rfl) (by exact fun _ _ _ h => h) (by rfl) ?_ (by assumption) ?_); rotate_left; (focus (intro w hSw; (try dsimp only at hSw); go_simp; (try with_reducible rfl); done)); (try simp only [Act.put, List.setIfInBounds_toArray, List.set_cons_zero, List.set_cons_succ])
                  (refine takeH (i := 9) (v := ?_) (by decide +kernel) (by decide +kernel) (by kernel_rfl) (by rfl) (by exact fun _ _ _ h => h) (by rfl) ?_ (by assumption) ?_); rotate_left; (focus (intro w hSw; (try dsimp only at hSw); go_simp; (try with_reducible rfl); done)); (try simp only [Act.put, List.setIfInBounds_toArray, List.set_cons_zero, List.set_cons_succ])
                  (refine takeH (i := 10) (v := ?_) (by decide +kernel) (by decide +kernel) (by kernel_rfl) (by rfl) (by exact fun _ _ _ h => h) (by rfl) ?_ (by assumption) ?_); rotate_left; (focus (intro w hSw; (try dsimp only at hSw); go_simp; (try with_reducible rfl); done)); (try simp only [Act.put, List.setIfInBounds_toArray, List.set_cons_zero, List.set_cons_succ])
                  (refine takeH (i := 11) (v := ?_) (by decide +kernel) (by decide +kernel) (by kernel_rfl) (by rfl) (by exact fun _ _ _ h => h) (by rfl) ?_ (by assumption) ?_); rotate_left; (focus (intro w hSw; (try dsimp only at hSw); go_simp; (try with_reducible rfl); done)); (try simp only [Act.put, List.setIfInBounds_toArray, List.set_cons_zero, List.set_cons_succ])
                  refine bothH (i := 4) (j := 12) (by decide +kernel) (by rfl) (by rfl) (by rfl) (by rfl) (fun K hK => ?_) (fun K hK => ?_)
                  go_simp
                  (skip)
                  refine hK.out _ _ ?_ (fun hHeld' => ?_)
                  (focus ((try dsimp only); (first | done | ((first | exact HKS.out _ rfl | exact HKS.out _ (Below.heap_alloc _ _ _ zsb) | exact HKS.out _ e7.1 | exact HKS.out _ ((set_heap _ _ (fun e => hn1 e.symm)).trans e7.1)); done))))
                  clear hK K hHeld
                  have hHeld := hHeld'
                  clear hHeld'
                  (try simp only [Act.put, List.setIfInBounds_toArray, List.set_cons_zero, List.set_cons_succ])
                  refine nextH (i := 12) (by decide +kernel) (by rfl) (by rfl) (fun K hK => ?_)
                  go_simp
                  (skip)
                  refine hK.out _ _ ?_ (fun hHeld' => ?_)
                  (focus ((try dsimp only); (first | done | ((first | exact HKS.out _ rfl | exact HKS.out _ (Below.heap_alloc _ _ _ zsb) | exact HKS.out _ e7.1 | exact HKS.out _ ((set_heap _ _ (fun e => hn1 e.symm)).trans e7.1)); done))))
                  clear hK K hHeld
                  have hHeld := hHeld'
                  clear hHeld'
                  (try simp only [Act.put, List.setIfInBounds_toArray, List.set_cons_zero, List.set_cons_succ])
                  refine nextH (i := 13) (by decide +kernel) (by rfl) (by rfl) (fun K hK => ?_)
                  ((refine wp_append_lies _ _ _ 36 rfl W1.heap.size 95 i0 (.agg #[.int .i64 0, .int .i64 0, .int .i64 0]) 3 24 Try.underlying36 hi hz0 hz1 hz2 rfl (by decide) (.slice fa M.length fc) M.length (flat fcRL.f M) rfl (World.ownsRow.drew HT.out.ow) ⟨wr.heap.size, 0, none⟩ 1 1 (Fc.cells ⟨4, L.last, G⟩).toList rfl rfl (fun j u hu => by rw [addr_addT, Nat.zero_add]; exact HBX.out j u hu) (by intro u hu; simp [Fc.cells] at hu; rcases hu with rfl | rfl | rfl <;> rfl) (by decide) (by unfold maxLen; omega) (by omega) (by simp; omega) _ rfl ?_); (intro g7 c7 w7 ho7 hg7 hat7 hlt7); (have hg8 := grown_undrew hg7); (have e7 := HKR.out w7 hg8); (have k9 := cell_stab c9 e7.2); (have kf := (World.frozen?_of_block (w := wr) e7.2).trans ctf))
                  refine hK.out _ _ ?_ (fun hHeld' => ?_)
                  (focus ((try dsimp only); (first | done | ((first | exact HKS.out _ rfl | exact HKS.out _ (Below.heap_alloc _ _ _ zsb) | exact HKS.out _ e7.1 | exact HKS.out _ ((set_heap _ _ (fun e => hn1 e.symm)).trans e7.1)); done))))
                  clear hK K hHeld
                  have hHeld := hHeld'
                  clear hHeld'
                  (try simp only [Act.put, List.setIfInBounds_toArray, List.set_cons_zero, List.set_cons_succ])
                  (refine takeH (i := 14) (v := ?_) (by decide +kernel) (by decide +kernel) (by kernel_rfl) (by rfl) (by exact fun _ _ _ h => h) (by rfl) ?_ (by assumption) ?_); rotate_left; (focus (intro w hSw; (try dsimp only at hSw); go_simp; (try with_reducible rfl); done)); (try simp only [Act.put, List.setIfInBounds_toArray, List.set_cons_zero, List.set_cons_succ])
                  (refine takeH (i := 15) (v := ?_) (by decide +kernel) (by decide +kernel) (by kernel_rfl) (by rfl) (by exact fun _ _ _ h => h) (by rfl) ?_ (by assumption) ?_); rotate_left; (focus (intro w hSw; (try dsimp only at hSw); go_simp; (try with_reducible rfl); done)); (try simp only [Act.put, List.setIfInBounds_toArray, List.set_cons_zero, List.set_cons_succ])
                  refine nextH (i := 16) (by decide +kernel) (by rfl) (by rfl) (fun K hK => ?_)
                  go_simp
                  (skip)
                  refine hK.out _ _ ?_ (fun hHeld' => ?_)
                  (focus ((try dsimp only); (first | done | ((first | exact HKS.out _ rfl | exact HKS.out _ (Below.heap_alloc _ _ _ zsb) | exact HKS.out _ e7.1 | exact HKS.out _ ((set_heap _ _ (fun e => hn1 e.symm)).trans e7.1)); done))))
                  clear hK K hHeld
                  have hHeld := hHeld'
                  clear hHeld'
                  (try simp only [Act.put, List.setIfInBounds_toArray, List.set_cons_zero, List.set_cons_succ])
                  refine wpAnyH_done (by decide +kernel) ?_ _
                  rotate_left
                  go_simp
                  (skip)
                  refine hK.out _ _ ?_ (fun hHeld' => ?_)
                  (focus ((try dsimp only); (first | done | ((first | exact HKS.out _ rfl | exact HKS.out _ (Below.heap_alloc _ _ _ zsb) | exact HKS.out _ e7.1 | exact HKS.out _ ((set_heap _ _ (fun e => hn1 e.symm)).trans e7.1)); done))))
                  clear hK K hHeld
                  have hHeld := hHeld'
                  clear hHeld'
                  (try simp only [Act.put, List.setIfInBounds_toArray, List.set_cons_zero, List.set_cons_succ])
                  refine nextH (i := 4) (by decide +kernel) (by rfl) (by rfl) (fun K hK => ?_)
                  go_simp
                  (skip)
                  refine hK.out _ _ ?_ (fun hHeld' => ?_)
                  (focus ((try dsimp only); (first | done | ((first | exact HKS.out _ rfl | exact HKS.out _ (Below.heap_alloc _ _ _ zsb) | exact HKS.out _ e7.1 | exact HKS.out _ ((set_heap _ _ (fun e => hn1 e.symm)).trans e7.1)); done))))
                  clear hK K hHeld
                  have hHeld := hHeld'
                  clear hHeld'
                  (try simp only [Act.put, List.setIfInBounds_toArray, List.set_cons_zero, List.set_cons_succ])
                  refine nextH (i := 13) (by decide +kernel) (by rfl) (by rfl) (fun K hK => ?_)
                  ((refine wp_append_lies _ _ _ 36 rfl W1.heap.size 95 i0 (.agg #[.int .i64 0, .int .i64 0, .int .i64 0]) 3 24 Try.underlying36 hi hz0 hz1 hz2 rfl (by decide) (.slice fa M.length fc) M.length (flat fcRL.f M) rfl (World.ownsRow.drew HT.out.ow) ⟨wr.heap.size, 0, none⟩ 1 1 (Fc.cells ⟨4, L.last, G⟩).toList rfl rfl (fun j u hu => by rw [addr_addT, Nat.zero_add]; exact HBX.out j u hu) (by intro u hu; simp [Fc.cells] at hu; rcases hu with rfl | rfl | rfl <;> rfl) (by decide) (by unfold maxLen; omega) (by omega) (by simp; omega) _ rfl ?_); (intro g7 c7 w7 ho7 hg7 hat7 hlt7); (have hg8 := grown_undrew hg7); (have e7 := HKR.out w7 hg8); (have k9 := cell_stab c9 e7.2); (have kf := (World.frozen?_of_block (w := wr) e7.2).trans ctf))
                  refine hK.out _ _ ?_ (fun hHeld' => ?_)
                  (focus ((try dsimp only); (first | done | ((first | exact HKS.out _ rfl | exact HKS.out _ (Below.heap_alloc _ _ _ zsb) | exact HKS.out _ e7.1 | exact HKS.out _ ((set_heap _ _ (fun e => hn1 e.symm)).trans e7.1)); done))))
                  clear hK K hHeld
                  have hHeld := hHeld'
                  clear hHeld'
                  (try simp only [Act.put, List.setIfInBounds_toArray, List.set_cons_zero, List.set_cons_succ])
                  (refine takeH (i := 14) (v := ?_) (by decide +kernel) (by decide +kernel) (by kernel_rfl) (by rfl) (by exact fun _ _ _ h => h) (by rfl) ?_ (by assumption) ?_); rotate_left; (focus (intro w hSw; (try dsimp only at hSw); go_simp; (try with_reducible rfl); done)); (try simp only [Act.put, List.setIfInBounds_toArray, List.set_cons_zero, List.set_cons_succ])
                  (refine takeH (i := 15) (v := ?_) (by decide +kernel) (by decide +kernel) (by kernel_rfl) (by rfl) (by exact fun _ _ _ h => h) (by rfl) ?_ (by assumption) ?_); rotate_left; (focus (intro w hSw; (try dsimp only at hSw); go_simp; (try with_reducible rfl); done)); (try simp only [Act.put, List.setIfInBounds_toArray, List.set_cons_zero, List.set_cons_succ])
                  refine nextH (i := 16) (by decide +kernel) (by rfl) (by rfl) (fun K hK => ?_)
                  go_simp
                  (skip)
                  refine hK.out _ _ ?_ (fun hHeld' => ?_)
                  (focus ((try dsimp only); (first | done | ((first | exact HKS.out _ rfl | exact HKS.out _ (Below.heap_alloc _ _ _ zsb) | exact HKS.out _ e7.1 | exact HKS.out _ ((set_heap _ _ (fun e => hn1 e.symm)).trans e7.1)); done))))
                  clear hK K hHeld
                  have hHeld := hHeld'
                  clear hHeld'
                  (try simp only [Act.put, List.setIfInBounds_toArray, List.set_cons_zero, List.set_cons_succ])
                  refine wpAnyH_done (by decide +kernel) ?_ _
                  all_goals
                    obtain ⟨wz, hwz⟩ : ∃ W, W = w7.setCell ⟨tb, 9, none⟩ (.slice (some ⟨g7, 0, none⟩) (M.length + 1) c7) := ⟨_, rfl⟩
                    have HPZ : Hid (PuSt K3 W1.heap.size w6 wz tb (some ⟨g7, 0, none⟩) c7 (M ++ [⟨4, L.last, G⟩])) := by
                      unfold Hid
                      rw [hwz]
                      exact HPU2.out.push hg8 ho7 (fun k hk => by
                        cases hk
                        rcases hat7 with h | h
                        · exact .inl h
                        · refine .inr ?_
                          have h9 : g7 = wr.heap.size + 1 := by simpa using h
                          show wr.heap.size + 1 ≤ g7
                          omega)
                    have HE3 : Hid (factsP r p move = ((M ++ [⟨4, L.last, G⟩]) ++ endFc r L, 0)) := by unfold Hid; rw [HE2.out, HSP.out]
                    rw [← hwz]
                    obtain ⟨MZ, hMZ⟩ : ∃ M', M' = M ++ [(⟨4, L.last, G⟩ : Fc)] := ⟨_, rfl⟩
                    have hMZl : MZ.length ≤ 30001 := by rw [hMZ]; simp; omega
                    have hMZe : MZ.length = M.length + 1 := by rw [hMZ]; simp
                    rw [← hMZ] at HPZ HE3
                    rw [← hMZe]
                    clear hHeld ho7 hg7 hat7 hlt7 hg8 e7 k9 kf hwz hMZ hMZe HBX HT HKS HKR HPU2 c9 ctf ztb zsb hbs6 hMl
                    have hpz := HPZ.out
                    have zyc : w1.heap.size < wz.heap.size := World.block_lt_of_cell? wz _ (HC6.out _ hpz.bl).2.2.2.2.1
                    have ztb := hpz.tl.lt
                    rcases Bool.eq_false_or_eq_true y.again with hyb | hyb
                    · have yc := (HC6.out _ hpz.bl).2.2.2.2.1
                      have HEB : Hid (factsP r p move = (MZ ++ [⟨5, 0, 0⟩], 0)) := by
                        unfold Hid
                        rw [HE3.out]
                        unfold endFc
                        rw [← HAG.out, hyb]
                        rfl
                      rw [hyb] at yc
                      obtain ⟨WE, hWE⟩ : ∃ W, W = wz.alloc (.cells #[.int .i64 5, .int .i64 0, .int .i64 0] 95) := ⟨_, rfl⟩
                      have hbE : Below wz.heap.size wz WE := by rw [hWE]; exact below_alloc1 _ _
                      have hpe := hpz.below hbE
                      have zE : wz.heap.size < WE.heap.size := by rw [hWE]; simp
                      have x0 : WE.cell? ⟨wz.heap.size, 0, none⟩ = some (.int .i64 5) := by rw [hWE]; simp [go_sem]
                      have x1 : WE.cell? ⟨wz.heap.size, 1, none⟩ = some (.int .i64 0) := by rw [hWE]; simp [go_sem]
                      have x2 : WE.cell? ⟨wz.heap.size, 2, none⟩ = some (.int .i64 0) := by rw [hWE]; simp [go_sem]
                      have c9 := hpe.tl.c9
                      have zt := hpe.tl.lt
                      have hbsE : W1.heap.size ≤ WE.heap.size := Nat.le_trans hpe.tl.tb0 (Nat.le_of_lt zt)
                      have HBX : Hid (BoxP WE.heap.size (Fc.cells ⟨5, 0, 0⟩).toList (WE.alloc (.cells (Fc.cells ⟨5, 0, 0⟩) 95))) := ((Fr.start WE).alloc (Fc.cells ⟨5, 0, 0⟩) 95).at 0 rfl
                      have HT := Lib.hid (hpe.tl.below (below_alloc1 WE (.cells (Fc.cells ⟨5, 0, 0⟩) 95)))
                      have HKS : Hid (∀ W : World, W.heap[tb]? = WE.heap[tb]? → W.heap[wz.heap.size]? = WE.heap[wz.heap.size]? → (W.cell? ⟨tb, 9, none⟩ = some (.slice (some ⟨g7, 0, none⟩) MZ.length c7) ∧ W.cell? ⟨wz.heap.size, 0, none⟩ = some (.int .i64 5) ∧ W.cell? ⟨wz.heap.size, 1, none⟩ = some (.int .i64 0) ∧ W.cell? ⟨wz.heap.size, 2, none⟩ = some (.int .i64 0))) := fun W h1 h2 => ⟨cell_stab c9 h1, cell_stab x0 h2, cell_stab x1 h2, cell_stab x2 h2⟩
                      have HKR : Hid (∀ w9 : World, (WE.alloc (.cells (Fc.cells ⟨5, 0, 0⟩) 95)).grownBy w9 (Value.slice (some ⟨g7, 0, none⟩) MZ.length c7).ownBlock → w9.heap[tb]? = WE.heap[tb]? ∧ w9.heap[wz.heap.size]? = WE.heap[wz.heap.size]?) := fun w9 hg =>
                        ⟨(hg.block tb (by simp; omega) (fun e => hpe.tl.ne tb e.symm rfl)).trans (Below.heap_alloc _ _ _ zt), (hg.block _ (by simp; omega) (fun e => by have := (hpz.tl.ow.lt _ e.symm).2; omega)).trans (Below.heap_alloc _ _ _ zE)⟩
                      have HPE := Lib.hid hpe
                      have HWE := Lib.hid hWE
                      have z9 := hpz.tl.c9
                      clear hpe hpz hyb hbE hWE
                      go_upto_region 30 with fail
                      rw [← HWE.out]
                      clear yc z9
                      refine heldH (S := fun W => W.cell? ⟨tb, 9, none⟩ = some (.slice (some ⟨g7, 0, none⟩) MZ.length c7) ∧ W.cell? ⟨wz.heap.size, 0, none⟩ = some (.int .i64 5) ∧ W.cell? ⟨wz.heap.size, 1, none⟩ = some (.int .i64 0) ∧ W.cell? ⟨wz.heap.size, 2, none⟩ = some (.int .i64 0)) (n := 9) (listed := #[false, false, false, false, false, false, false, false, false]) (by kernel_rfl) (by rfl) (by rfl) ?_ (fun hHeld => ?_)
                      (focus ((try dsimp only); (first | done | ((first | exact HKS.out _ rfl rfl | exact HKS.out _ (Below.heap_alloc _ _ _ zt) (Below.heap_alloc _ _ _ zE) | exact HKS.out _ e9.1 e9.2); done))))
                      (refine takeH (i := 0) (v := ?_) (by decide +kernel) (by decide +kernel) (by kernel_rfl) (by rfl) (by exact fun _ _ _ h => h) (by rfl) ?_ (by assumption) ?_); rotate_left; (focus (intro w hSw; (try dsimp only at hSw); go_simp; (try with_reducible rfl); done)); (try simp only [Act.put, List.setIfInBounds_toArray, List.set_cons_zero, List.set_cons_succ])
                      (refine takeH (i := 1) (v := ?_) (by decide +kernel) (by decide +kernel) (by kernel_rfl) (by rfl) (by exact fun _ _ _ h => h) (by rfl) ?_ (by assumption) ?_); rotate_left; (focus (intro w hSw; (try dsimp only at hSw); go_simp; (try with_reducible rfl); done)); (try simp only [Act.put, List.setIfInBounds_toArray, List.set_cons_zero, List.set_cons_succ])
                      (refine takeH (i := 2) (v := ?_) (by decide +kernel) (by decide +kernel) (by kernel_rfl) (by rfl) (by exact fun _ _ _ h => h) (by rfl) ?_ (by assumption) ?_); rotate_left; (focus (intro w hSw; (try dsimp only at hSw); go_simp; (try with_reducible rfl); done)); (try simp only [Act.put, List.setIfInBounds_toArray, List.set_cons_zero, List.set_cons_succ])
                      (refine takeH (i := 3) (v := ?_) (by decide +kernel) (by decide +kernel) (by kernel_rfl) (by rfl) (by exact fun _ _ _ h => h) (by rfl) ?_ (by assumption) ?_); rotate_left; (focus (intro w hSw; (try dsimp only at hSw); go_simp; (try with_reducible rfl); done)); (try simp only [Act.put, List.setIfInBounds_toArray, List.set_cons_zero, List.set_cons_succ])
                      (refine takeH (i := 4) (v := ?_) (by decide +kernel) (by decide +kernel) (by kernel_rfl) (by rfl) (by exact fun _ _ _ h => h) (by rfl) ?_ (by assumption) ?_); rotate_left; (focus (intro w hSw; (try dsimp only at hSw); go_simp; (try with_reducible rfl); done)); (try simp only [Act.put, List.setIfInBounds_toArray, List.set_cons_zero, List.set_cons_succ])
                      refine nextH (i := 5) (by decide +kernel) (by rfl) (by rfl) (fun K hK => ?_)
                      go_simp
                      (skip)
                      refine hK.out _ _ ?_ (fun hHeld' => ?_)
                      (focus ((try dsimp only); (first | done | ((first | exact HKS.out _ rfl rfl | exact HKS.out _ (Below.heap_alloc _ _ _ zt) (Below.heap_alloc _ _ _ zE) | exact HKS.out _ e9.1 e9.2); done))))
                      clear hK K hHeld
                      have hHeld := hHeld'
                      clear hHeld'
                      (try simp only [Act.put, List.setIfInBounds_toArray, List.set_cons_zero, List.set_cons_succ])
                      refine nextH (i := 6) (by decide +kernel) (by rfl) (by rfl) (fun K hK => ?_)
                      ((refine wp_append_lies _ _ _ 36 rfl W1.heap.size 95 i0 (.agg #[.int .i64 0, .int .i64 0, .int .i64 0]) 3 24 Try.underlying36 hi hz0 hz1 hz2 rfl (by decide) (.slice (some ⟨g7, 0, none⟩) MZ.length c7) MZ.length (flat fcRL.f MZ) rfl (World.ownsRow.drew HT.out.ow) ⟨WE.heap.size, 0, none⟩ 1 1 (Fc.cells ⟨5, 0, 0⟩).toList rfl rfl (fun j u hu => by rw [addr_addT, Nat.zero_add]; exact HBX.out j u hu) (by intro u hu; simp [Fc.cells] at hu; rcases hu with rfl | rfl | rfl <;> rfl) (by decide) (by unfold maxLen; omega) (by omega) (by simp; omega) _ rfl ?_); (intro g9 c9' w9 ho9 hg9 hat9 hlt9); (have hg8 := grown_undrew hg9); (have e9 := HKR.out w9 hg8))
                      refine hK.out _ _ ?_ (fun hHeld' => ?_)
                      (focus ((try dsimp only); (first | done | ((first | exact HKS.out _ rfl rfl | exact HKS.out _ (Below.heap_alloc _ _ _ zt) (Below.heap_alloc _ _ _ zE) | exact HKS.out _ e9.1 e9.2); done))))
                      clear hK K hHeld
                      have hHeld := hHeld'
                      clear hHeld'
                      (try simp only [Act.put, List.setIfInBounds_toArray, List.set_cons_zero, List.set_cons_succ])
                      (refine takeH (i := 7) (v := ?_) (by decide +kernel) (by decide +kernel) (by kernel_rfl) (by rfl) (by exact fun _ _ _ h => h) (by rfl) ?_ (by assumption) ?_); rotate_left; (focus (intro w hSw; (try dsimp only at hSw); go_simp; (try with_reducible rfl); done)); (try simp only [Act.put, List.setIfInBounds_toArray, List.set_cons_zero, List.set_cons_succ])
                      (refine takeH (i := 8) (v := ?_) (by decide +kernel) (by decide +kernel) (by kernel_rfl) (by rfl) (by exact fun _ _ _ h => h) (by rfl) ?_ (by assumption) ?_); rotate_left; (focus (intro w hSw; (try dsimp only at hSw); go_simp; (try with_reducible rfl); done)); (try simp only [Act.put, List.setIfInBounds_toArray, List.set_cons_zero, List.set_cons_succ])
                      refine wpAnyH_done (by decide +kernel) ?_ _
                      have hB9 : BelK K3 W1.heap.size w6 w9 := by
                        have hb := HPE.out.below (below_alloc1 WE (.cells (Fc.cells ⟨5, 0, 0⟩) 95))
                        exact hb.bl.grown hg8 (Nat.le_trans hb.tl.tb0 (Nat.le_of_lt hb.tl.lt)) (fun k hk => (hb.tl.ow.lt k hk).1) hb.ak
                      have HFIN : Hid (Pcs w9 w.heap.size (fcRL.pcs (some ⟨g9, 0, none⟩) c9' (MZ ++ [⟨5, 0, 0⟩])) ∧ Below w.heap.size w w9) := by
                        refine ⟨fc_pcs (ownsRow_le (base := W1.heap.size) ?_ zW1), (HC6.out _ hB9).2.2.2.2.2.1⟩
                        rw [flat_append, flat_one, show (MZ ++ [(⟨5, 0, 0⟩ : Fc)]).length = MZ.length + 1 by simp]
                        exact ho9
                      clear hHeld ho9 hg9 hat9 hlt9 hg8 e9 hB9
                      go_wp2
                      go_ret2
                      rw [HEB.out]
                      refine ⟨some ⟨g9, 0, none⟩, c9', ?_, HFIN.out⟩
                      dsimp only
                      rw [show (MZ ++ [(⟨5, 0, 0⟩ : Fc)]).length = MZ.length + 1 by simp]
                      rfl
                    · have yc := (HC6.out _ hpz.bl).2.2.2.2.1
                      have HEB : Hid (factsP r p move = (MZ ++ [⟨6, 0, 0⟩], 0)) := by
                        unfold Hid
                        rw [HE3.out]
                        unfold endFc
                        rw [← HAG.out, hyb]
                        rfl
                      rw [hyb] at yc
                      obtain ⟨WE, hWE⟩ : ∃ W, W = wz.alloc (.cells #[.int .i64 6, .int .i64 0, .int .i64 0] 95) := ⟨_, rfl⟩
                      have hbE : Below wz.heap.size wz WE := by rw [hWE]; exact below_alloc1 _ _
                      have hpe := hpz.below hbE
                      have zE : wz.heap.size < WE.heap.size := by rw [hWE]; simp
                      have x0 : WE.cell? ⟨wz.heap.size, 0, none⟩ = some (.int .i64 6) := by rw [hWE]; simp [go_sem]
                      have x1 : WE.cell? ⟨wz.heap.size, 1, none⟩ = some (.int .i64 0) := by rw [hWE]; simp [go_sem]
                      have x2 : WE.cell? ⟨wz.heap.size, 2, none⟩ = some (.int .i64 0) := by rw [hWE]; simp [go_sem]
                      have c9 := hpe.tl.c9
                      have zt := hpe.tl.lt
                      have hbsE : W1.heap.size ≤ WE.heap.size := Nat.le_trans hpe.tl.tb0 (Nat.le_of_lt zt)
                      have HBX : Hid (BoxP WE.heap.size (Fc.cells ⟨6, 0, 0⟩).toList (WE.alloc (.cells (Fc.cells ⟨6, 0, 0⟩) 95))) := ((Fr.start WE).alloc (Fc.cells ⟨6, 0, 0⟩) 95).at 0 rfl
                      have HT := Lib.hid (hpe.tl.below (below_alloc1 WE (.cells (Fc.cells ⟨6, 0, 0⟩) 95)))
                      have HKS : Hid (∀ W : World, W.heap[tb]? = WE.heap[tb]? → W.heap[wz.heap.size]? = WE.heap[wz.heap.size]? → (W.cell? ⟨tb, 9, none⟩ = some (.slice (some ⟨g7, 0, none⟩) MZ.length c7) ∧ W.cell? ⟨wz.heap.size, 0, none⟩ = some (.int .i64 6) ∧ W.cell? ⟨wz.heap.size, 1, none⟩ = some (.int .i64 0) ∧ W.cell? ⟨wz.heap.size, 2, none⟩ = some (.int .i64 0))) := fun W h1 h2 => ⟨cell_stab c9 h1, cell_stab x0 h2, cell_stab x1 h2, cell_stab x2 h2⟩
                      have HKR : Hid (∀ w9 : World, (WE.alloc (.cells (Fc.cells ⟨6, 0, 0⟩) 95)).grownBy w9 (Value.slice (some ⟨g7, 0, none⟩) MZ.length c7).ownBlock → w9.heap[tb]? = WE.heap[tb]? ∧ w9.heap[wz.heap.size]? = WE.heap[wz.heap.size]?) := fun w9 hg =>
                        ⟨(hg.block tb (by simp; omega) (fun e => hpe.tl.ne tb e.symm rfl)).trans (Below.heap_alloc _ _ _ zt), (hg.block _ (by simp; omega) (fun e => by have := (hpz.tl.ow.lt _ e.symm).2; omega)).trans (Below.heap_alloc _ _ _ zE)⟩
                      have HPE := Lib.hid hpe
                      have HWE := Lib.hid hWE
                      have z9 := hpz.tl.c9
                      clear hpe hpz hyb hbE hWE
                      go_upto_region 30 with fail
                      rw [← HWE.out]
                      clear yc z9
                      refine heldH (S := fun W => W.cell? ⟨tb, 9, none⟩ = some (.slice (some ⟨g7, 0, none⟩) MZ.length c7) ∧ W.cell? ⟨wz.heap.size, 0, none⟩ = some (.int .i64 6) ∧ W.cell? ⟨wz.heap.size, 1, none⟩ = some (.int .i64 0) ∧ W.cell? ⟨wz.heap.size, 2, none⟩ = some (.int .i64 0)) (n := 9) (listed := #[false, false, false, false, false, false, false, false, false]) (by kernel_rfl) (by rfl) (by rfl) ?_ (fun hHeld => ?_)
                      (focus ((try dsimp only); (first | done | ((first | exact HKS.out _ rfl rfl | exact HKS.out _ (Below.heap_alloc _ _ _ zt) (Below.heap_alloc _ _ _ zE) | exact HKS.out _ e9.1 e9.2); done))))
                      (refine takeH (i := 0) (v := ?_) (by decide +kernel) (by decide +kernel) (by kernel_rfl) (by rfl) (by exact fun _ _ _ h => h) (by rfl) ?_ (by assumption) ?_); rotate_left; (focus (intro w hSw; (try dsimp only at hSw); go_simp; (try with_reducible rfl); done)); (try simp only [Act.put, List.setIfInBounds_toArray, List.set_cons_zero, List.set_cons_succ])
                      (refine takeH (i := 1) (v := ?_) (by decide +kernel) (by decide +kernel) (by kernel_rfl) (by rfl) (by exact fun _ _ _ h => h) (by rfl) ?_ (by assumption) ?_); rotate_left; (focus (intro w hSw; (try dsimp only at hSw); go_simp; (try with_reducible rfl); done)); (try simp only [Act.put, List.setIfInBounds_toArray, List.set_cons_zero, List.set_cons_succ])
                      (refine takeH (i := 2) (v := ?_) (by decide +kernel) (by decide +kernel) (by kernel_rfl) (by rfl) (by exact fun _ _ _ h => h) (by rfl) ?_ (by assumption) ?_); rotate_left; (focus (intro w hSw; (try dsimp only at hSw); go_simp; (try with_reducible rfl); done)); (try simp only [Act.put, List.setIfInBounds_toArray, List.set_cons_zero, List.set_cons_succ])
                      (refine takeH (i := 3) (v := ?_) (by decide +kernel) (by decide +kernel) (by kernel_rfl) (by rfl) (by exact fun _ _ _ h => h) (by rfl) ?_ (by assumption) ?_); rotate_left; (focus (intro w hSw; (try dsimp only at hSw); go_simp; (try with_reducible rfl); done)); (try simp only [Act.put, List.setIfInBounds_toArray, List.set_cons_zero, List.set_cons_succ])
                      (refine takeH (i := 4) (v := ?_) (by decide +kernel) (by decide +kernel) (by kernel_rfl) (by rfl) (by exact fun _ _ _ h => h) (by rfl) ?_ (by assumption) ?_); rotate_left; (focus (intro w hSw; (try dsimp only at hSw); go_simp; (try with_reducible rfl); done)); (try simp only [Act.put, List.setIfInBounds_toArray, List.set_cons_zero, List.set_cons_succ])
                      refine nextH (i := 5) (by decide +kernel) (by rfl) (by rfl) (fun K hK => ?_)
                      go_simp
                      (skip)
                      refine hK.out _ _ ?_ (fun hHeld' => ?_)
                      (focus ((try dsimp only); (first | done | ((first | exact HKS.out _ rfl rfl | exact HKS.out _ (Below.heap_alloc _ _ _ zt) (Below.heap_alloc _ _ _ zE) | exact HKS.out _ e9.1 e9.2); done))))
                      clear hK K hHeld
                      have hHeld := hHeld'
                      clear hHeld'
                      (try simp only [Act.put, List.setIfInBounds_toArray, List.set_cons_zero, List.set_cons_succ])
                      refine nextH (i := 6) (by decide +kernel) (by rfl) (by rfl) (fun K hK => ?_)
                      ((refine wp_append_lies _ _ _ 36 rfl W1.heap.size 95 i0 (.agg #[.int .i64 0, .int .i64 0, .int .i64 0]) 3 24 Try.underlying36 hi hz0 hz1 hz2 rfl (by decide) (.slice (some ⟨g7, 0, none⟩) MZ.length c7) MZ.length (flat fcRL.f MZ) rfl (World.ownsRow.drew HT.out.ow) ⟨WE.heap.size, 0, none⟩ 1 1 (Fc.cells ⟨6, 0, 0⟩).toList rfl rfl (fun j u hu => by rw [addr_addT, Nat.zero_add]; exact HBX.out j u hu) (by intro u hu; simp [Fc.cells] at hu; rcases hu with rfl | rfl | rfl <;> rfl) (by decide) (by unfold maxLen; omega) (by omega) (by simp; omega) _ rfl ?_); (intro g9 c9' w9 ho9 hg9 hat9 hlt9); (have hg8 := grown_undrew hg9); (have e9 := HKR.out w9 hg8))
                      refine hK.out _ _ ?_ (fun hHeld' => ?_)
                      (focus ((try dsimp only); (first | done | ((first | exact HKS.out _ rfl rfl | exact HKS.out _ (Below.heap_alloc _ _ _ zt) (Below.heap_alloc _ _ _ zE) | exact HKS.out _ e9.1 e9.2); done))))
                      clear hK K hHeld
                      have hHeld := hHeld'
                      clear hHeld'
                      (try simp only [Act.put, List.setIfInBounds_toArray, List.set_cons_zero, List.set_cons_succ])
                      (refine takeH (i := 7) (v := ?_) (by decide +kernel) (by decide +kernel) (by kernel_rfl) (by rfl) (by exact fun _ _ _ h => h) (by rfl) ?_ (by assumption) ?_); rotate_left; (focus (intro w hSw; (try dsimp only at hSw); go_simp; (try with_reducible rfl); done)); (try simp only [Act.put, List.setIfInBounds_toArray, List.set_cons_zero, List.set_cons_succ])
                      (refine takeH (i := 8) (v := ?_) (by decide +kernel) (by decide +kernel) (by kernel_rfl) (by rfl) (by exact fun _ _ _ h => h) (by rfl) ?_ (by assumption) ?_); rotate_left; (focus (intro w hSw; (try dsimp only at hSw); go_simp; (try with_reducible rfl); done)); (try simp only [Act.put, List.setIfInBounds_toArray, List.set_cons_zero, List.set_cons_succ])
                      refine wpAnyH_done (by decide +kernel) ?_ _
                      have hB9 : BelK K3 W1.heap.size w6 w9 := by
                        have hb := HPE.out.below (below_alloc1 WE (.cells (Fc.cells ⟨6, 0, 0⟩) 95))
                        exact hb.bl.grown hg8 (Nat.le_trans hb.tl.tb0 (Nat.le_of_lt hb.tl.lt)) (fun k hk => (hb.tl.ow.lt k hk).1) hb.ak
                      have HFIN : Hid (Pcs w9 w.heap.size (fcRL.pcs (some ⟨g9, 0, none⟩) c9' (MZ ++ [⟨6, 0, 0⟩])) ∧ Below w.heap.size w w9) := by
                        refine ⟨fc_pcs (ownsRow_le (base := W1.heap.size) ?_ zW1), (HC6.out _ hB9).2.2.2.2.2.1⟩
                        rw [flat_append, flat_one, show (MZ ++ [(⟨6, 0, 0⟩ : Fc)]).length = MZ.length + 1 by simp]
                        exact ho9
                      clear hHeld ho9 hg9 hat9 hlt9 hg8 e9 hB9
                      go_wp2
                      go_ret2
                      rw [HEB.out]
                      refine ⟨some ⟨g9, 0, none⟩, c9', ?_, HFIN.out⟩
                      dsimp only
                      rw [show (MZ ++ [(⟨6, 0, 0⟩ : Fc)]).length = MZ.length + 1 by simp]
                      rfl
            · have HSP : Hid (spareF L.pits CAP RAW L.last = []) := if_neg hca
              have HE3 : Hid (factsP r p move = (M ++ endFc r L, 0)) := by unfold Hid; rw [HE2.out, HSP.out, List.append_nil]
              have hcr : ((CAP.length : Int) == 0) = false ∨ (((CAP.length : Int) == 0) = true ∧ ¬ (0 : Int) < (RAW.length : Int)) := by
                by_cases hc0 : CAP = []
                · right
                  have hr0 : RAW = [] := by
                    by_cases hr : RAW = []
                    · exact hr
                    · exact absurd ⟨hc0, hr⟩ hca
                  rw [hc0, hr0]
                  exact ⟨rfl, by simp⟩
                · left
                  have : 0 < CAP.length := List.length_pos_iff.2 hc0
                  simp
                  omega
              clear hca
              rcases hcr with hci0 | ⟨hci0, hrp0⟩
              all_goals
                have hpz := HPU8.out
                have zyc : w1.heap.size < w8.heap.size := World.block_lt_of_cell? w8 _ (HC6.out _ hpz.bl).2.2.2.2.1
                have ztb := hpz.tl.lt
                rcases Bool.eq_false_or_eq_true y.again with hyb | hyb
                · have yc := (HC6.out _ hpz.bl).2.2.2.2.1
                  have HEB : Hid (factsP r p move = (M ++ [⟨5, 0, 0⟩], 0)) := by
                    unfold Hid
                    rw [HE3.out]
                    unfold endFc
                    rw [← HAG.out, hyb]
                    rfl
                  rw [hyb] at yc
                  obtain ⟨WE, hWE⟩ : ∃ W, W = w8.alloc (.cells #[.int .i64 5, .int .i64 0, .int .i64 0] 95) := ⟨_, rfl⟩
                  have hbE : Below w8.heap.size w8 WE := by rw [hWE]; exact below_alloc1 _ _
                  have hpe := hpz.below hbE
                  have zE : w8.heap.size < WE.heap.size := by rw [hWE]; simp
                  have x0 : WE.cell? ⟨w8.heap.size, 0, none⟩ = some (.int .i64 5) := by rw [hWE]; simp [go_sem]
                  have x1 : WE.cell? ⟨w8.heap.size, 1, none⟩ = some (.int .i64 0) := by rw [hWE]; simp [go_sem]
                  have x2 : WE.cell? ⟨w8.heap.size, 2, none⟩ = some (.int .i64 0) := by rw [hWE]; simp [go_sem]
                  have c9 := hpe.tl.c9
                  have zt := hpe.tl.lt
                  have hbsE : W1.heap.size ≤ WE.heap.size := Nat.le_trans hpe.tl.tb0 (Nat.le_of_lt zt)
                  have HBX : Hid (BoxP WE.heap.size (Fc.cells ⟨5, 0, 0⟩).toList (WE.alloc (.cells (Fc.cells ⟨5, 0, 0⟩) 95))) := ((Fr.start WE).alloc (Fc.cells ⟨5, 0, 0⟩) 95).at 0 rfl
                  have HT := Lib.hid (hpe.tl.below (below_alloc1 WE (.cells (Fc.cells ⟨5, 0, 0⟩) 95)))
                  have HKS : Hid (∀ W : World, W.heap[tb]? = WE.heap[tb]? → W.heap[w8.heap.size]? = WE.heap[w8.heap.size]? → (W.cell? ⟨tb, 9, none⟩ = some (.slice fa M.length fc) ∧ W.cell? ⟨w8.heap.size, 0, none⟩ = some (.int .i64 5) ∧ W.cell? ⟨w8.heap.size, 1, none⟩ = some (.int .i64 0) ∧ W.cell? ⟨w8.heap.size, 2, none⟩ = some (.int .i64 0))) := fun W h1 h2 => ⟨cell_stab c9 h1, cell_stab x0 h2, cell_stab x1 h2, cell_stab x2 h2⟩
                  have HKR : Hid (∀ w9 : World, (WE.alloc (.cells (Fc.cells ⟨5, 0, 0⟩) 95)).grownBy w9 (Value.slice fa M.length fc).ownBlock → w9.heap[tb]? = WE.heap[tb]? ∧ w9.heap[w8.heap.size]? = WE.heap[w8.heap.size]?) := fun w9 hg =>
                    ⟨(hg.block tb (by simp; omega) (fun e => hpe.tl.ne tb e.symm rfl)).trans (Below.heap_alloc _ _ _ zt), (hg.block _ (by simp; omega) (fun e => by have := (hpz.tl.ow.lt _ e.symm).2; omega)).trans (Below.heap_alloc _ _ _ zE)⟩
                  have HPE := Lib.hid hpe
                  have HWE := Lib.hid hWE
                  have z9 := hpz.tl.c9
                  clear hpe hpz hyb hbE hWE
                  go_upto_region 30 with fail
                  rw [← HWE.out]
                  clear yc z9
                  refine heldH (S := fun W => W.cell? ⟨tb, 9, none⟩ = some (.slice fa M.length fc) ∧ W.cell? ⟨w8.heap.size, 0, none⟩ = some (.int .i64 5) ∧ W.cell? ⟨w8.heap.size, 1, none⟩ = some (.int .i64 0) ∧ W.cell? ⟨w8.heap.size, 2, none⟩ = some (.int .i64 0)) (n := 9) (listed := #[false, false, false, false, false, false, false, false, false]) (by kernel_rfl) (by rfl) (by rfl) ?_ (fun hHeld => ?_)
                  (focus ((try dsimp only); (first | done | ((first | exact HKS.out _ rfl rfl | exact HKS.out _ (Below.heap_alloc _ _ _ zt) (Below.heap_alloc _ _ _ zE) | exact HKS.out _ e9.1 e9.2); done))))
                  (refine takeH (i := 0) (v := ?_) (by decide +kernel) (by decide +kernel) (by kernel_rfl) (by rfl) (by exact fun _ _ _ h => h) (by rfl) ?_ (by assumption) ?_); rotate_left; (focus (intro w hSw; (try dsimp only at hSw); go_simp; (try with_reducible rfl); done)); (try simp only [Act.put, List.setIfInBounds_toArray, List.set_cons_zero, List.set_cons_succ])
                  (refine takeH (i := 1) (v := ?_) (by decide +kernel) (by decide +kernel) (by kernel_rfl) (by rfl) (by exact fun _ _ _ h => h) (by rfl) ?_ (by assumption) ?_); rotate_left; (focus (intro w hSw; (try dsimp only at hSw); go_simp; (try with_reducible rfl); done)); (try simp only [Act.put, List.setIfInBounds_toArray, List.set_cons_zero, List.set_cons_succ])
                  (refine takeH (i := 2) (v := ?_) (by decide +kernel) (by decide +kernel) (by kernel_rfl) (by rfl) (by exact fun _ _ _ h => h) (by rfl) ?_ (by assumption) ?_); rotate_left; (focus (intro w hSw; (try dsimp only at hSw); go_simp; (try with_reducible rfl); done)); (try simp only [Act.put, List.setIfInBounds_toArray, List.set_cons_zero, List.set_cons_succ])
                  (refine takeH (i := 3) (v := ?_) (by decide +kernel) (by decide +kernel) (by kernel_rfl) (by rfl) (by exact fun _ _ _ h => h) (by rfl) ?_ (by assumption) ?_); rotate_left; (focus (intro w hSw; (try dsimp only at hSw); go_simp; (try with_reducible rfl); done)); (try simp only [Act.put, List.setIfInBounds_toArray, List.set_cons_zero, List.set_cons_succ])
                  (refine takeH (i := 4) (v := ?_) (by decide +kernel) (by decide +kernel) (by kernel_rfl) (by rfl) (by exact fun _ _ _ h => h) (by rfl) ?_ (by assumption) ?_); rotate_left; (focus (intro w hSw; (try dsimp only at hSw); go_simp; (try with_reducible rfl); done)); (try simp only [Act.put, List.setIfInBounds_toArray, List.set_cons_zero, List.set_cons_succ])
                  refine nextH (i := 5) (by decide +kernel) (by rfl) (by rfl) (fun K hK => ?_)
                  go_simp
                  (skip)
                  refine hK.out _ _ ?_ (fun hHeld' => ?_)
                  (focus ((try dsimp only); (first | done | ((first | exact HKS.out _ rfl rfl | exact HKS.out _ (Below.heap_alloc _ _ _ zt) (Below.heap_alloc _ _ _ zE) | exact HKS.out _ e9.1 e9.2); done))))
                  clear hK K hHeld
                  have hHeld := hHeld'
                  clear hHeld'
                  (try simp only [Act.put, List.setIfInBounds_toArray, List.set_cons_zero, List.set_cons_succ])
                  refine nextH (i := 6) (by decide +kernel) (by rfl) (by rfl) (fun K hK => ?_)
                  ((refine wp_append_lies _ _ _ 36 rfl W1.heap.size 95 i0 (.agg #[.int .i64 0, .int .i64 0, .int .i64 0]) 3 24 Try.underlying36 hi hz0 hz1 hz2 rfl (by decide) (.slice fa M.length fc) M.length (flat fcRL.f M) rfl (World.ownsRow.drew HT.out.ow) ⟨WE.heap.size, 0, none⟩ 1 1 (Fc.cells ⟨5, 0, 0⟩).toList rfl rfl (fun j u hu => by rw [addr_addT, Nat.zero_add]; exact HBX.out j u hu) (by intro u hu; simp [Fc.cells] at hu; rcases hu with rfl | rfl | rfl <;> rfl) (by decide) (by unfold maxLen; omega) (by omega) (by simp; omega) _ rfl ?_); (intro g9 c9' w9 ho9 hg9 hat9 hlt9); (have hg8 := grown_undrew hg9); (have e9 := HKR.out w9 hg8))
                  refine hK.out _ _ ?_ (fun hHeld' => ?_)
                  (focus ((try dsimp only); (first | done | ((first | exact HKS.out _ rfl rfl | exact HKS.out _ (Below.heap_alloc _ _ _ zt) (Below.heap_alloc _ _ _ zE) | exact HKS.out _ e9.1 e9.2); done))))
                  clear hK K hHeld
                  have hHeld := hHeld'
                  clear hHeld'
                  (try simp only [Act.put, List.setIfInBounds_toArray, List.set_cons_zero, List.set_cons_succ])
                  (refine takeH (i := 7) (v := ?_) (by decide +kernel) (by decide +kernel) (by kernel_rfl) (by rfl) (by exact fun _ _ _ h => h) (by rfl) ?_ (by assumption) ?_); rotate_left; (focus (intro w hSw; (try dsimp only at hSw); go_simp; (try with_reducible rfl); done)); (try simp only [Act.put, List.setIfInBounds_toArray, List.set_cons_zero, List.set_cons_succ])
                  (refine takeH (i := 8) (v := ?_) (by decide +kernel) (by decide +kernel) (by kernel_rfl) (by rfl) (by exact fun _ _ _ h => h) (by rfl) ?_ (by assumption) ?_); rotate_left; (focus (intro w hSw; (try dsimp only at hSw); go_simp; (try with_reducible rfl); done)); (try simp only [Act.put, List.setIfInBounds_toArray, List.set_cons_zero, List.set_cons_succ])
                  refine wpAnyH_done (by decide +kernel) ?_ _
                  have hB9 : BelK K3 W1.heap.size w6 w9 := by
                    have hb := HPE.out.below (below_alloc1 WE (.cells (Fc.cells ⟨5, 0, 0⟩) 95))
                    exact hb.bl.grown hg8 (Nat.le_trans hb.tl.tb0 (Nat.le_of_lt hb.tl.lt)) (fun k hk => (hb.tl.ow.lt k hk).1) hb.ak
                  have HFIN : Hid (Pcs w9 w.heap.size (fcRL.pcs (some ⟨g9, 0, none⟩) c9' (M ++ [⟨5, 0, 0⟩])) ∧ Below w.heap.size w w9) := by
                    refine ⟨fc_pcs (ownsRow_le (base := W1.heap.size) ?_ zW1), (HC6.out _ hB9).2.2.2.2.2.1⟩
                    rw [flat_append, flat_one, show (M ++ [(⟨5, 0, 0⟩ : Fc)]).length = M.length + 1 by simp]
                    exact ho9
                  clear hHeld ho9 hg9 hat9 hlt9 hg8 e9 hB9
                  go_wp2
                  go_ret2
                  rw [HEB.out]
                  refine ⟨some ⟨g9, 0, none⟩, c9', ?_, HFIN.out⟩
                  dsimp only
                  rw [show (M ++ [(⟨5, 0, 0⟩ : Fc)]).length = M.length + 1 by simp]
                  rfl
                · have yc := (HC6.out _ hpz.bl).2.2.2.2.1
                  have HEB : Hid (factsP r p move = (M ++ [⟨6, 0, 0⟩], 0)) := by
                    unfold Hid
                    rw [HE3.out]
                    unfold endFc
                    rw [← HAG.out, hyb]
                    rfl
                  rw [hyb] at yc
                  obtain ⟨WE, hWE⟩ : ∃ W, W = w8.alloc (.cells #[.int .i64 6, .int .i64 0, .int .i64 0] 95) := ⟨_, rfl⟩
                  have hbE : Below w8.heap.size w8 WE := by rw [hWE]; exact below_alloc1 _ _
                  have hpe := hpz.below hbE
                  have zE : w8.heap.size < WE.heap.size := by rw [hWE]; simp
                  have x0 : WE.cell? ⟨w8.heap.size, 0, none⟩ = some (.int .i64 6) := by rw [hWE]; simp [go_sem]
                  have x1 : WE.cell? ⟨w8.heap.size, 1, none⟩ = some (.int .i64 0) := by rw [hWE]; simp [go_sem]
                  have x2 : WE.cell? ⟨w8.heap.size, 2, none⟩ = some (.int .i64 0) := by rw [hWE]; simp [go_sem]
                  have c9 := hpe.tl.c9
                  have zt := hpe.tl.lt
                  have hbsE : W1.heap.size ≤ WE.heap.size := Nat.le_trans hpe.tl.tb0 (Nat.le_of_lt zt)
                  have HBX : Hid (BoxP WE.heap.size (Fc.cells ⟨6, 0, 0⟩).toList (WE.alloc (.cells (Fc.cells ⟨6, 0, 0⟩) 95))) := ((Fr.start WE).alloc (Fc.cells ⟨6, 0, 0⟩) 95).at 0 rfl
                  have HT := Lib.hid (hpe.tl.below (below_alloc1 WE (.cells (Fc.cells ⟨6, 0, 0⟩) 95)))
                  have HKS : Hid (∀ W : World, W.heap[tb]? = WE.heap[tb]? → W.heap[w8.heap.size]? = WE.heap[w8.heap.size]? → (W.cell? ⟨tb, 9, none⟩ = some (.slice fa M.length fc) ∧ W.cell? ⟨w8.heap.size, 0, none⟩ = some (.int .i64 6) ∧ W.cell? ⟨w8.heap.size, 1, none⟩ = some (.int .i64 0) ∧ W.cell? ⟨w8.heap.size, 2, none⟩ = some (.int .i64 0))) := fun W h1 h2 => ⟨cell_stab c9 h1, cell_stab x0 h2, cell_stab x1 h2, cell_stab x2 h2⟩
                  have HKR : Hid (∀ w9 : World, (WE.alloc (.cells (Fc.cells ⟨6, 0, 0⟩) 95)).grownBy w9 (Value.slice fa M.length fc).ownBlock → w9.heap[tb]? = WE.heap[tb]? ∧ w9.heap[w8.heap.size]? = WE.heap[w8.heap.size]?) := fun w9 hg =>
                    ⟨(hg.block tb (by simp; omega) (fun e => hpe.tl.ne tb e.symm rfl)).trans (Below.heap_alloc _ _ _ zt), (hg.block _ (by simp; omega) (fun e => by have := (hpz.tl.ow.lt _ e.symm).2; omega)).trans (Below.heap_alloc _ _ _ zE)⟩
                  have HPE := Lib.hid hpe
                  have HWE := Lib.hid hWE
                  have z9 := hpz.tl.c9
                  clear hpe hpz hyb hbE hWE
                  go_upto_region 30 with fail
                  rw [← HWE.out]
                  clear yc z9
                  refine heldH (S := fun W => W.cell? ⟨tb, 9, none⟩ = some (.slice fa M.length fc) ∧ W.cell? ⟨w8.heap.size, 0, none⟩ = some (.int .i64 6) ∧ W.cell? ⟨w8.heap.size, 1, none⟩ = some (.int .i64 0) ∧ W.cell? ⟨w8.heap.size, 2, none⟩ = some (.int .i64 0)) (n := 9) (listed := #[false, false, false, false, false, false, false, false, false]) (by kernel_rfl) (by rfl) (by rfl) ?_ (fun hHeld => ?_)
                  (focus ((try dsimp only); (first | done | ((first | exact HKS.out _ rfl rfl | exact HKS.out _ (Below.heap_alloc _ _ _ zt) (Below.heap_alloc _ _ _ zE) | exact HKS.out _ e9.1 e9.2); done))))
                  (refine takeH (i := 0) (v := ?_) (by decide +kernel) (by decide +kernel) (by kernel_rfl) (by rfl) (by exact fun _ _ _ h => h) (by rfl) ?_ (by assumption) ?_); rotate_left; (focus (intro w hSw; (try dsimp only at hSw); go_simp; (try with_reducible rfl); done)); (try simp only [Act.put, List.setIfInBounds_toArray, List.set_cons_zero, List.set_cons_succ])
                  (refine takeH (i := 1) (v := ?_) (by decide +kernel) (by decide +kernel) (by kernel_rfl) (by rfl) (by exact fun _ _ _ h => h) (by rfl) ?_ (by assumption) ?_); rotate_left; (focus (intro w hSw; (try dsimp only at hSw); go_simp; (try with_reducible rfl); done)); (try simp only [Act.put, List.setIfInBounds_toArray, List.set_cons_zero, List.set_cons_succ])
                  (refine takeH (i := 2) (v := ?_) (by decide +kernel) (by decide +kernel) (by kernel_rfl) (by rfl) (by exact fun _ _ _ h => h) (by rfl) ?_ (by assumption) ?_); rotate_left; (focus (intro w hSw; (try dsimp only at hSw); go_simp; (try with_reducible rfl); done)); (try simp only [Act.put, List.setIfInBounds_toArray, List.set_cons_zero, List.set_cons_succ])
                  (refine takeH (i := 3) (v := ?_) (by decide +kernel) (by decide +kernel) (by kernel_rfl) (by rfl) (by exact fun _ _ _ h => h) (by rfl) ?_ (by assumption) ?_); rotate_left; (focus (intro w hSw; (try dsimp only at hSw); go_simp; (try with_reducible rfl); done)); (try simp only [Act.put, List.setIfInBounds_toArray, List.set_cons_zero, List.set_cons_succ])
                  (refine takeH (i := 4) (v := ?_) (by decide +kernel) (by decide +kernel) (by kernel_rfl) (by rfl) (by exact fun _ _ _ h => h) (by rfl) ?_ (by assumption) ?_); rotate_left; (focus (intro w hSw; (try dsimp only at hSw); go_simp; (try with_reducible rfl); done)); (try simp only [Act.put, List.setIfInBounds_toArray, List.set_cons_zero, List.set_cons_succ])
                  refine nextH (i := 5) (by decide +kernel) (by rfl) (by rfl) (fun K hK => ?_)
                  go_simp
                  (skip)
                  refine hK.out _ _ ?_ (fun hHeld' => ?_)
                  (focus ((try dsimp only); (first | done | ((first | exact HKS.out _ rfl rfl | exact HKS.out _ (Below.heap_alloc _ _ _ zt) (Below.heap_alloc _ _ _ zE) | exact HKS.out _ e9.1 e9.2); done))))
                  clear hK K hHeld
                  have hHeld := hHeld'
                  clear hHeld'
                  (try simp only [Act.put, List.setIfInBounds_toArray, List.set_cons_zero, List.set_cons_succ])
                  refine nextH (i := 6) (by decide +kernel) (by rfl) (by rfl) (fun K hK => ?_)
                  ((refine wp_append_lies _ _ _ 36 rfl W1.heap.size 95 i0 (.agg #[.int .i64 0, .int .i64 0, .int .i64 0]) 3 24 Try.underlying36 hi hz0 hz1 hz2 rfl (by decide) (.slice fa M.length fc) M.length (flat fcRL.f M) rfl (World.ownsRow.drew HT.out.ow) ⟨WE.heap.size, 0, none⟩ 1 1 (Fc.cells ⟨6, 0, 0⟩).toList rfl rfl (fun j u hu => by rw [addr_addT, Nat.zero_add]; exact HBX.out j u hu) (by intro u hu; simp [Fc.cells] at hu; rcases hu with rfl | rfl | rfl <;> rfl) (by decide) (by unfold maxLen; omega) (by omega) (by simp; omega) _ rfl ?_); (intro g9 c9' w9 ho9 hg9 hat9 hlt9); (have hg8 := grown_undrew hg9); (have e9 := HKR.out w9 hg8))
                  refine hK.out _ _ ?_ (fun hHeld' => ?_)
                  (focus ((try dsimp only); (first | done | ((first | exact HKS.out _ rfl rfl | exact HKS.out _ (Below.heap_alloc _ _ _ zt) (Below.heap_alloc _ _ _ zE) | exact HKS.out _ e9.1 e9.2); done))))
                  clear hK K hHeld
                  have hHeld := hHeld'
                  clear hHeld'
                  (try simp only [Act.put, List.setIfInBounds_toArray, List.set_cons_zero, List.set_cons_succ])
                  (refine takeH (i := 7) (v := ?_) (by decide +kernel) (by decide +kernel) (by kernel_rfl) (by rfl) (by exact fun _ _ _ h => h) (by rfl) ?_ (by assumption) ?_); rotate_left; (focus (intro w hSw; (try dsimp only at hSw); go_simp; (try with_reducible rfl); done)); (try simp only [Act.put, List.setIfInBounds_toArray, List.set_cons_zero, List.set_cons_succ])
                  (refine takeH (i := 8) (v := ?_) (by decide +kernel) (by decide +kernel) (by kernel_rfl) (by rfl) (by exact fun _ _ _ h => h) (by rfl) ?_ (by assumption) ?_); rotate_left; (focus (intro w hSw; (try dsimp only at hSw); go_simp; (try with_reducible rfl); done)); (try simp only [Act.put, List.setIfInBounds_toArray, List.set_cons_zero, List.set_cons_succ])
                  refine wpAnyH_done (by decide +kernel) ?_ _
                  have hB9 : BelK K3 W1.heap.size w6 w9 := by
                    have hb := HPE.out.below (below_alloc1 WE (.cells (Fc.cells ⟨6, 0, 0⟩) 95))
                    exact hb.bl.grown hg8 (Nat.le_trans hb.tl.tb0 (Nat.le_of_lt hb.tl.lt)) (fun k hk => (hb.tl.ow.lt k hk).1) hb.ak
                  have HFIN : Hid (Pcs w9 w.heap.size (fcRL.pcs (some ⟨g9, 0, none⟩) c9' (M ++ [⟨6, 0, 0⟩])) ∧ Below w.heap.size w w9) := by
                    refine ⟨fc_pcs (ownsRow_le (base := W1.heap.size) ?_ zW1), (HC6.out _ hB9).2.2.2.2.2.1⟩
                    rw [flat_append, flat_one, show (M ++ [(⟨6, 0, 0⟩ : Fc)]).length = M.length + 1 by simp]
                    exact ho9
                  clear hHeld ho9 hg9 hat9 hlt9 hg8 e9 hB9
                  go_wp2
                  go_ret2
                  rw [HEB.out]
                  refine ⟨some ⟨g9, 0, none⟩, c9', ?_, HFIN.out⟩
                  dsimp only
                  rw [show (M ++ [(⟨6, 0, 0⟩ : Fc)]).length = M.length + 1 by simp]
                  rfl

end Go.Proofs.Ytbjgigdkbjabaaa
