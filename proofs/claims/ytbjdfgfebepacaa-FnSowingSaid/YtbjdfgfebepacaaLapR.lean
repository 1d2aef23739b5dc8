/- LapR: the first lap of a move: the contracts of both sides. Each holds for every argument, under the premises that it states. -/
import Derived.Test.YtbjdfgfebepacaaSown
namespace Go.Proofs.Ytbjdfgfebepacaa
set_option linter.unusedSimpArgs false
set_option linter.unusedVariables false
set_option linter.unnecessarySimpa false
open Go.RowKit Go.ChangeShapes Go.WideShapes Go.ChangeAt Go.Joins

def lapR (r : R) (p : P) (move : Int) : Sn × Int :=
  if codeP r p move = 0 then (⟨(lapP r p.player (p.player * r.pits + move) p.pits p.stores []).pits, (lapP r p.player (p.player * r.pits + move) p.pits p.stores []).stores, (lapP r p.player (p.player * r.pits + move) p.pits p.stores []).last, 1⟩, 0) else (Sn.zero, codeP r p move)
theorem lapR_len (r : R) (p : P) (move : Int) : (lapR r p move).1.pits.length ≤ 16 ∧ (lapR r p move).1.stores.length ≤ 2 := by
  unfold lapR
  split
  · rename_i hc
    obtain ⟨hok, mv, hnz⟩ := codeP_zero hc
    obtain ⟨hbd, ⟨pn, hpn, hpn1⟩, t, hB, ht0, ht1⟩ := P.ok_parts hok
    obtain ⟨fn, hfn, hfl⟩ := from_ok hok mv
    rw [hfn]
    obtain ⟨k1, k2, k3⟩ := lapP_brd hbd p.player fn (by omega) p.pits p.stores [] t hB hfl
    have := k1.lp
    have := k1.ls
    have := hbd.hi
    simp
    omega
  · simp [Sn.zero]

set_option maxRecDepth 100000 in
set_option maxHeartbeats 4000000 in
theorem iSowLap_c (r : R) (p : P) (move : Int) (pa sa : Option Addr) (pc sc : Nat) (w : World) (h : PRow w p pa sa) (m1 : p.pits.length ≤ 16777216) (m2 : p.stores.length ≤ 16777216) :
    Calls Try.prog 53 #[r.val, p.val pa pc sa sc, .int .i64 move] w (SnRes w (lapR r p move)) := by
  have F0 := (((Fr.start w).alloc r.cells 25).alloc (p.cells pa pc sa sc) 67).alloc #[.slice none 0 0, .slice none 0 0, .int .i64 0, .int .i64 0] 72
  have g0 : ∀ o, (((w.alloc (.cells r.cells 25)).alloc (.cells (p.cells pa pc sa sc) 67)).alloc (.cells #[.slice none 0 0, .slice none 0 0, .int .i64 0, .int .i64 0] 72)).frozen? ⟨w.heap.size + 1 + 1, o, none⟩ = false := by intro o; simp [go_sem]
  obtain ⟨cd, hcd⟩ : ∃ cd, cd = codeP r p move := ⟨_, rfl⟩
  have HCD := Lib.hid hcd
  have HSC := Lib.hid (fun W H => hcd ▸ sowCode_c r p move pa sa pc sc W H m1 m2 : ∀ W, PRow W p pa sa → Calls Try.prog 134 #[r.val, p.val pa pc sa sc, .int .i64 move] W fun e w' => e = .returned (.int .i64 cd) ∧ Below W.heap.size W w')
  obtain ⟨y, hy⟩ : ∃ y, y = lapR r p move := ⟨_, rfl⟩
  have HY := Lib.hid hy
  rw [← hy]
  clear hcd hy
  go_enter Try.func53, Try.ntmps53
  go_wp2_with fail
  refine (HSC.out _ (h.below F0.below (Nat.le_refl _))).mono ?_
  rintro e w1 ⟨rfl, hb1⟩
  have F1 := F0.step hb1
  have hfz : ∀ o, w1.frozen? ⟨w.heap.size + 1 + 1, o, none⟩ = false := fun o => ((bcell hb1).2 _ o (by simp)).trans (g0 o)
  obtain ⟨x0, x1, x2, x3⟩ := (⟨F1.at 0 rfl 0 _ rfl, F1.at 0 rfl 1 _ rfl, F1.at 0 rfl 2 _ rfl, F1.at 0 rfl 3 _ rfl⟩ : _ ∧ _ ∧ _ ∧ _)
  simp only [World.size_alloc] at x0 x1 x2 x3
  have zC : w.heap.size + 1 + 1 < w1.heap.size := by have := F1.le 0 rfl; simp at this; omega
  have B1 := F1.below
  clear F0 g0 hb1
  by_cases hc0 : cd = 0
  case neg =>
    have HE : Hid (y = (Sn.zero, cd)) := by unfold Hid; rw [HY.out, lapR, ← HCD.out, if_neg hc0]
    have hc1 : (cd != 0) = true := by simpa using hc0
    clear hc0 F1
    go_wp2_with fail
    refine bodyPost_ret (v := .tuple #[Sn.zero.val A2.none, .int .i64 cd]) (by simp [results, Try.results53, go_sem, x0, x1, x2, x3, hfz, Sn.zero, A2.none]) rfl ?_
    rw [HE.out]
    refine ⟨A2.none, rfl, POwn.nil _ _, ?_⟩
    repeat (first | (with_reducible exact B1) | ((with_reducible refine Below.setCell ?_ ?_ _); rotate_left; (simp <;> omega)))
  subst hc0
  obtain ⟨hok, mv, hnz⟩ := codeP_zero HCD.out.symm
  obtain ⟨hbd, ⟨pn, hpn, hpn1⟩, t, hB, ht0, ht1⟩ := P.ok_parts hok
  obtain ⟨fn, hfn, hfl⟩ := from_ok hok mv
  obtain ⟨L, hL⟩ : ∃ L, L = lapP r pn fn p.pits p.stores [] := ⟨_, rfl⟩
  have HE : Hid (y = (⟨L.pits, L.stores, L.last, 1⟩, 0)) := by unfold Hid; rw [HY.out, lapR, ← HCD.out, if_pos rfl, hfn, hpn, ← hL]
  obtain ⟨c0, c1, c2, c3, c4, c5, c6, c7, c8⟩ := R.boxc (F1.at 2 rfl)
  obtain ⟨d0, d1, d2⟩ := P.boxc (F1.at 1 rfl)
  have zA : w.heap.size < w1.heap.size := by omega
  have zB : w.heap.size + 1 < w1.heap.size := by omega
  simp only [World.size_alloc] at d0 d1 d2
  have hlp := hB.lp
  have hls := hB.ls
  have hlo := hbd.lo
  have HNS := Lib.hid (newSowing_c r p pn hpn pa sa pc sc _ (h.below F1.below (Nat.le_refl _)) m1 m2 (by omega) (by omega))
  have HPC : Hid (∀ W, Calls Try.prog 137 #[r.val, .int .i64 p.player, .int .i64 move] W fun e w' => e = .returned (.int .i64 (fn : Int)) ∧ Below W.heap.size W w') := fun W => by
    have := pitOf_c r pn move W hbd hpn1 ⟨by omega, by have := hbd.hi; omega⟩
    rw [← hpn, hfn] at this
    exact this
  have HBR := Lib.hid hB
  have HL := Lib.hid hL
  clear hlp hls hB hfn hpn hok hnz HCD HY hL
  go_wp2_with fail
  refine HNS.out.mono ?_
  rintro e w2 ⟨sb, pg, qc, sg, tc, ta, tac, rfl, hs, hf, hw, ho, ha, hb2⟩
  have F2 := F1.step hb2
  clear c0 c1 c2 c3 c4 c5 c6 c7 c8 d0 d1 d2 F1
  obtain ⟨c0, c1, c2, c3, c4, c5, c6, c7, c8⟩ := R.boxc (F2.at 2 rfl)
  obtain ⟨d0, d1, d2⟩ := P.boxc (F2.at 1 rfl)
  have s12 := hb2.size
  have zA2 : w.heap.size < w2.heap.size := by omega
  have zB2 : w.heap.size + 1 < w2.heap.size := by omega
  simp only [World.size_alloc] at d0 d1 d2
  have HS2 := Lib.hid (⟨hs, hf, hw, ho, ha⟩ : _ ∧ _ ∧ _ ∧ _ ∧ _)
  have HB2 := Lib.hid hb2
  clear hb2 hs hf hw ho ha
  go_wp2_with fail
  refine (HPC.out _).mono ?_
  rintro e w3 ⟨rfl, hb3⟩
  have F3 := F2.step hb3
  obtain ⟨hs, hf, hw, ho, ha⟩ := HS2.out
  have HMV := Lib.hid (lap_c w1.heap.size sb pg qc sg tc r hbd pn fn p.pits p.stores [] 0 0 ta tac w3 (hs.below hb3) (hf.below hb3) (hw.below hb3) (own_below ho hb3 (Nat.le_refl _)) ha hpn1 HBR.out.lp HBR.out.ls hfl (HBR.out.bp (by omega)) (HBR.out.bs (by omega)) (by simp) ⟨by omega, by omega⟩)
  rw [← HL.out] at HMV
  have HB3 := Lib.hid ((HB2.out).trans (hb3.mono s12))
  clear hs hf hw ho ha hb3 F2 HS2 c0 c1 c2 c3 c4 c5 c6 c7 c8 d0 d1 d2 F3
  go_wp2_with fail
  refine HMV.out.mono ?_
  rintro e w4 ⟨ta4, tac4, rfl, hs4, hf4, hw4, ho4, ha4, hb4⟩
  have B14 := HB3.out.trans hb4
  obtain ⟨k0, k1, k2, k3⟩ := (⟨hs4.c0, hs4.c1, hf4.c2, hf4.c3⟩ : _ ∧ _ ∧ _ ∧ _)
  simp only [Nat.reduceAdd] at k0 k1 k2 k3
  have k3' : w4.cell? ⟨sb, 13, none⟩ = some (.int .i64 1) := by rw [k3]; rfl
  have n1 : ¬ sb = w.heap.size + 1 + 1 := by have := hs4.nb0; omega
  have n2 : ¬ w.heap.size + 1 + 1 = sb := fun e => n1 e.symm
  have y0 : w4.cell? ⟨w.heap.size + 1 + 1, 0, none⟩ = some (.slice none 0 0) := (B14.cell (show (Addr.mk (w.heap.size + 1 + 1) 0 none).block < _ from zC)).trans x0
  have y1 : w4.cell? ⟨w.heap.size + 1 + 1, 1, none⟩ = some (.slice none 0 0) := (B14.cell (show (Addr.mk (w.heap.size + 1 + 1) 1 none).block < _ from zC)).trans x1
  have y2 : w4.cell? ⟨w.heap.size + 1 + 1, 2, none⟩ = some (.int .i64 0) := (B14.cell (show (Addr.mk (w.heap.size + 1 + 1) 2 none).block < _ from zC)).trans x2
  have y3 : w4.cell? ⟨w.heap.size + 1 + 1, 3, none⟩ = some (.int .i64 0) := (B14.cell (show (Addr.mk (w.heap.size + 1 + 1) 3 none).block < _ from zC)).trans x3
  have yf : ∀ o, w4.frozen? ⟨w.heap.size + 1 + 1, o, none⟩ = false := fun o => ((bcell B14).2 _ o zC).trans (hfz o)
  have HS := Lib.hid hs4
  have BW : Below w.heap.size w w4 := B1.trans (B14.mono (by omega))
  clear hs4 hf4 hw4 ho4 ha4 hb4 k3 x0 x1 x2 x3 hfz
  go_wp2_with fail
  refine bodyPost_ret (v := .tuple #[(⟨L.pits, L.stores, L.last, 1⟩ : Sn).val ⟨some ⟨pg, 0, none⟩, qc, some ⟨sg, 0, none⟩, tc⟩, .int .i64 0]) (by simp [results, Try.results53, go_sem, y0, y1, y2, y3, yf]) rfl ?_
  rw [HE.out]
  refine ⟨⟨some ⟨pg, 0, none⟩, qc, some ⟨sg, 0, none⟩, tc⟩, rfl, ⟨?_, ?_, .inr (by simp [Value.ownBlock]; exact HS.out.n1)⟩, ?_⟩
  · have k0 := HS.out.op
    refine ownsRow_le (base := w1.heap.size) ?_ (by omega)
    repeat (first | (with_reducible exact k0) | ((with_reducible refine ownsRow_setCell_below ?_ ?_ _); rotate_left; (simp <;> omega)))
  · have k0 := HS.out.os
    refine ownsRow_le (base := w1.heap.size) ?_ (by omega)
    repeat (first | (with_reducible exact k0) | ((with_reducible refine ownsRow_setCell_below ?_ ?_ _); rotate_left; (simp <;> omega)))
  · repeat (first | (with_reducible exact BW) | ((with_reducible refine Below.setCell ?_ ?_ _); rotate_left; (simp <;> omega)))

end Go.Proofs.Ytbjdfgfebepacaa
