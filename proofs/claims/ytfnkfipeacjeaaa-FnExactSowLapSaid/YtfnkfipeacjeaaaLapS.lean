/- LapS: the first lap of a move: the reference's contract. It holds for every argument, under the premises that it states. -/
import Derived.Test.YtfnkfipeacjeaaaLapR
import Derived.Test.YtfnkfipeacjeaaaStored
import Derived.Deep.CutRange
namespace Go.Proofs.Ytfnkfipeacjeaaa
set_option linter.unusedSimpArgs false
set_option linter.unusedVariables false
set_option linter.unnecessarySimpa false
open Go.RowKit Go.ChangeShapes Go.WideShapes Go.ChangeAt Go.Joins

set_option maxRecDepth 100000 in
set_option maxHeartbeats 8000000 in
theorem sSowLap_c (r : R) (p : P) (move : Int) (pa sa : Option Addr) (pc sc : Nat) (w : World) (h : PRow w p pa sa) (m1 : p.pits.length ≤ 16777216) (m2 : p.stores.length ≤ 16777216) :
    Calls Try.prog 23 #[r.val, p.val pa pc sa sc, .int .i64 move] w (SnRes w (lapR r p move)) := by
  have F0 := (((Fr.start w).alloc r.cells 26).alloc (p.cells pa pc sa sc) 42).alloc #[.slice none 0 0, .slice none 0 0, .int .i64 0, .int .i64 0] 39
  have g0 : ∀ o, (((w.alloc (.cells r.cells 26)).alloc (.cells (p.cells pa pc sa sc) 42)).alloc (.cells #[.slice none 0 0, .slice none 0 0, .int .i64 0, .int .i64 0] 39)).frozen? ⟨w.heap.size + 1 + 1, o, none⟩ = false := by intro o; simp [go_sem]
  have hr := R.boxc (F0.at 2 rfl)
  have hp : P.At _ (w.alloc (.cells r.cells 26)).heap.size 0 p pa pc sa sc := ⟨F0.at 1 rfl 0 _ rfl, F0.at 1 rfl 1 _ rfl, F0.at 1 rfl 2 _ rfl⟩
  simp only [World.size_alloc] at hp
  obtain ⟨cd, hcd⟩ : ∃ cd, cd = codeP r p move := ⟨_, rfl⟩
  have HCD := Lib.hid hcd
  have HSC := Lib.hid (l05Code_c _ _ _ _ r p move pa sa pc sc _ hr hp (h.below F0.below (Nat.le_refl _)) m1 m2)
  rw [← hcd] at HSC
  obtain ⟨y, hy⟩ : ∃ y, y = lapR r p move := ⟨_, rfl⟩
  have HY := Lib.hid hy
  rw [← hy]
  clear hcd hy hr hp
  go_enter Try.func23, Try.ntmps23
  go_wp2_with fail
  refine HSC.out.mono ?_
  rintro e w1 ⟨rfl, m, hw1⟩
  have F1 := F0.drawn m
  rw [← hw1] at F1
  have hfz : ∀ o, w1.frozen? ⟨w.heap.size + 1 + 1, o, none⟩ = false := fun o => by rw [hw1]; exact g0 o
  simp only [World.size_alloc] at F1
  obtain ⟨x0, x1, x2, x3⟩ := (⟨F1.at 0 rfl 0 _ rfl, F1.at 0 rfl 1 _ rfl, F1.at 0 rfl 2 _ rfl, F1.at 0 rfl 3 _ rfl⟩ : _ ∧ _ ∧ _ ∧ _)
  have zC : w.heap.size + 1 + 1 < w1.heap.size := F1.le 0 rfl
  have B1 := F1.below
  clear F0 g0 hw1 HSC
  by_cases hc0 : cd = 0
  case neg =>
    have HE : Hid (y = (Sn.zero, cd)) := by unfold Hid; rw [HY.out, lapR, ← HCD.out, if_neg hc0]
    have hc1 : (cd != 0) = true := by simpa using hc0
    clear hc0 F1
    go_wp2_with fail
    refine bodyPost_ret (v := .tuple #[Sn.zero.val A2.none, .int .i64 cd]) (by simp [results, Try.results23, go_sem, x0, x1, x2, x3, hfz, Sn.zero, A2.none]) rfl ?_
    rw [HE.out]
    refine ⟨A2.none, rfl, POwn.nil _ _, ?_⟩
    repeat (first | (with_reducible exact B1) | ((with_reducible refine Below.setCell ?_ ?_ _); rotate_left; (simp <;> omega)))
  subst hc0
  obtain ⟨hok, mv, hnz⟩ := codeP_zero HCD.out.symm
  obtain ⟨hbd, ⟨pn, hpn, hpn1⟩, t, hB, ht0, ht1⟩ := P.ok_parts hok
  obtain ⟨fn, hfn, hfnl⟩ := from_ok hok mv
  obtain ⟨L, hL⟩ : ∃ L, L = lapP r pn fn p.pits p.stores [] := ⟨_, rfl⟩
  have HE : Hid (y = (⟨L.pits, L.stores, L.last, 1⟩, 0)) := by unfold Hid; rw [HY.out, lapR, ← HCD.out, if_pos rfl, hfn, hpn, ← hL]
  obtain ⟨d0, d1, d2⟩ := P.boxc (F1.at 1 rfl)
  have zA : w.heap.size < w1.heap.size := by omega
  have zB : w.heap.size + 1 < w1.heap.size := by omega
  have HRow : Hid (PRow w1 p pa sa) := h.below B1 (Nat.le_refl _)
  have l1 : 0 < p.pits.length := by have := hB.lp; have := hbd.lo; omega
  have l2 : 0 < p.stores.length := by have := hB.ls; omega
  have HBR := Lib.hid hB
  have HL := Lib.hid hL
  have HFN := Lib.hid hfn
  have HPN := Lib.hid hpn
  have hlo := hbd.lo
  have hhi := hbd.hi
  have hm0 : 0 ≤ p.player * r.pits := Int.mul_nonneg (by omega) (by omega)
  have hm8 : p.player * r.pits ≤ 8 := by
    have := Int.mul_le_mul (a := p.player) (b := r.pits) (c := 1) (d := 8) (by omega) hhi (by omega) (by omega)
    omega
  have hmv0 := mv.1
  have hmv1 := mv.2
  clear hB hfn hpn hok hnz HCD HY hL mv h
  go_upto_region 4 with fail
  go_cut [9] from 16 to 22 (fun s9 wx => ∃ nb pg qc sg tc, s9 = .pointer (some ⟨nb, 0, none⟩) ∧ SnI w1.heap.size wx nb 0 pg qc sg tc p.pits p.stores ∧ Fld wx nb 0 0 0 ∧ Below w1.heap.size w1 wx)
  case first =>
    go_region_held3 (fun w' => ∀ b o, b < w1.heap.size → w'.cell? ⟨b, o, none⟩ = w1.cell? ⟨b, o, none⟩)
      ((intro b o hbo; refine Below.cell (B := w1.heap.size) ?_ (show (Addr.mk b o none).block < _ from hbo); first | (with_reducible exact G3.below) | (with_reducible exact G3.below.alloc G3.below.size _) | (with_reducible exact G2.below) | (with_reducible exact G2.below.alloc G2.below.size _) | (with_reducible exact (Fr.start w1).drew.below) | (with_reducible exact ((Fr.start w1).allocF _ _).drew.below) | (repeat (first | (with_reducible exact G3.below) | ((with_reducible refine Below.setCell ?_ ?_ _); rotate_left; (simp <;> omega))))))
      (first
      | (go_at_call 72; have tk := hb2; first | (refine (l00Own_c sa sc p.stores _ (HRow.out.stores.below G2.below (Nat.le_refl _)) m2).mono ?_) | (refine (l00Own_c sa sc p.stores _ (HRow.out.stores.below (G2.below.alloc G2.below.size _) (Nat.le_refl _)) m2).mono ?_)
         rintro e w3 ⟨sa', sc', rfl, ho3, hb3⟩
         first | (have G3 := G2.step hb3) | (have G3 := (G2.allocF #[.slice none 0 0, .slice none 0 0, .int .i64 0, .int .i64 0] 39).step hb3)
         have s3 := hb3.size
         try simp only [World.size_alloc, World.size_drew] at s3
         try (obtain ⟨bx, bf⟩ := G3.at 0 rfl; have y0 := bx 0 _ rfl; have y1 := bx 1 _ rfl; have y2 := bx 2 _ rfl; have y3 := bx 3 _ rfl; try simp only [World.size_alloc, World.size_drew] at y0 y1 y2 y3 bf))
      | (go_at_call 72; first | (refine (l00Own_c pa pc p.pits _ (HRow.out.pits.below (Fr.start w1).drew.below (Nat.le_refl _)) m1).mono ?_) | (refine (l00Own_c pa pc p.pits _ (HRow.out.pits.below ((Fr.start w1).allocF _ _).drew.below (Nat.le_refl _)) m1).mono ?_)
         rintro e w2 ⟨pa', pc', rfl, ho2, hb2⟩
         first | (have G2 := (Fr.start w1).drew.step hb2) | (have G2 := ((Fr.start w1).allocF #[.slice none 0 0, .slice none 0 0, .int .i64 0, .int .i64 0] 39).drew.step hb2)
         have s2 := hb2.size
         try simp only [World.size_alloc, World.size_drew] at s2))
    all_goals (go_wp2_with fail)
    all_goals go_meet
    all_goals
      have h12 : ∀ k, k < w2.heap.size → w3.heap[k]? = w2.heap[k]? := fun k hk => (by first | exact hb3.block k hk | exact (below_next (below_alloc1 _ _) hb3).block k hk)
      have BG := G3.below
      obtain ⟨pg, rfl, hp1, hp2⟩ := own_lt_n ho2 l1
      obtain ⟨sg, rfl, hs1, hs2⟩ := own_lt_n ho3 l2
      try simp only [World.size_alloc, World.size_drew] at ho2
      try simp only [World.size_alloc, World.size_drew] at ho3
    · refine ⟨_, pg, pc', sg, sc', rfl, two_rows ho2 ho3 h12 (fun k hk _ => (below_alloc1 w3 _).block k hk) (by omega) (by omega) (by omega) (by omega) (by omega) (by omega) (by simp) (by simp), ⟨by simp, by simp, by intro o; simp⟩, BG.alloc BG.size _⟩
    all_goals
      have FS := (Fr.from BG).stored4 (v0 := .slice (some ⟨pg, 0, none⟩) p.pits.length pc') (v1 := .slice (some ⟨sg, 0, none⟩) p.stores.length sc') (v2 := .int .i64 0) (v3 := .int .i64 0) (by omega) (by simp) y0 y1 y2 y3
      refine ⟨_, pg, pc', sg, sc', rfl, two_rows ho2 ho3 h12 (fun k hk hn => ?_) (by omega) (by omega) (by omega) (by omega) (by omega) (by omega) (FS.at 0 rfl 0 _ rfl) (FS.at 0 rfl 1 _ rfl), ⟨FS.at 0 rfl 2 _ rfl, FS.at 0 rfl 3 _ rfl, fun o => by simpa using bf o⟩, FS.below⟩
      rw [Below.heap_setCell _ _ _ k hn, Below.heap_setCell _ _ _ k hn, Below.heap_setCell _ _ _ k hn, Below.heap_setCell _ _ _ k hn]
  case rest =>
    obtain ⟨nb, pg, qc, sg, tc, rfl, hsn, hfl, hbz⟩ := hcut
    have F2 := F1.step hbz
    clear d0 d1 d2 F1
    obtain ⟨c0, c1, c2, c3, c4, c5, c6, c7, c8⟩ := R.boxc (F2.at 2 rfl)
    obtain ⟨d0, d1, d2⟩ := P.boxc (F2.at 1 rfl)
    have s1c := hbz.size
    have zA2 : w.heap.size < wc.heap.size := by omega
    have zB2 : w.heap.size + 1 < wc.heap.size := by omega
    have HNIL : OwnI (wc.alloc (.cells #[] 2)) w1.heap.size (some ⟨wc.heap.size, 0, none⟩) 0 [] := by
      have := World.ownsRow_lit (base := w1.heap.size) (e := 2) (size := 1) wc #[] 0 s1c (Nat.zero_le _) rfl
      simpa [OwnI] using this
    have hnb := hsn.lt
    have hpg := own_head hsn.op
    have hsg := own_head hsn.os
    have HLC := Lib.hid (l05Lap_c w1.heap.size w.heap.size 0 nb pg qc sg tc r hbd pn fn p.pits p.stores [] 0 0 (some ⟨wc.heap.size, 0, none⟩) 0 _ ((R.boxc (F2.at 2 rfl)).below (below_alloc1 wc _) zA2) (by omega) (hsn.below (below_alloc1 _ _)) ((hfl.alloc hnb _).c2) ((hfl.alloc hnb _).c3) ((hfl.alloc hnb _).fz) HNIL
      (by intro k hk; simp [Value.ownBlock] at hk; omega) hpn1 HBR.out.lp HBR.out.ls hfnl (HBR.out.bp (by omega)) (HBR.out.bs (by omega)) (by simp) ⟨by omega, by omega⟩)
    rw [← HL.out, ← HFN.out, ← HPN.out] at HLC
    have HBZ := Lib.hid hbz
    have hnbn : nb < wc.heap.size := hnb
    clear hbz hsn hfl HNIL hpg hsg F2
    go_wp2_with fail
    refine HLC.out.mono ?_
    rintro e w5 ⟨ta1, tc1, rfl, hs1, hx2, hx3, hfz1, ho1, ha1, hb5⟩
    have B15 : Below w1.heap.size w1 w5 := (HBZ.out.alloc s1c _).trans hb5
    obtain ⟨k0, k1⟩ := (⟨hs1.c0, hs1.c1⟩ : _ ∧ _)
    simp only [Nat.zero_add] at k0 k1 hx3
    have n1 : ¬ nb = w.heap.size + 1 + 1 := by have := hs1.nb0; omega
    have n2 : ¬ w.heap.size + 1 + 1 = nb := fun e => n1 e.symm
    have y0 : w5.cell? ⟨w.heap.size + 1 + 1, 0, none⟩ = some (.slice none 0 0) := (B15.cell (show (Addr.mk (w.heap.size + 1 + 1) 0 none).block < _ from zC)).trans x0
    have y1 : w5.cell? ⟨w.heap.size + 1 + 1, 1, none⟩ = some (.slice none 0 0) := (B15.cell (show (Addr.mk (w.heap.size + 1 + 1) 1 none).block < _ from zC)).trans x1
    have y2 : w5.cell? ⟨w.heap.size + 1 + 1, 2, none⟩ = some (.int .i64 0) := (B15.cell (show (Addr.mk (w.heap.size + 1 + 1) 2 none).block < _ from zC)).trans x2
    have y3 : w5.cell? ⟨w.heap.size + 1 + 1, 3, none⟩ = some (.int .i64 0) := (B15.cell (show (Addr.mk (w.heap.size + 1 + 1) 3 none).block < _ from zC)).trans x3
    have yf : ∀ o, w5.frozen? ⟨w.heap.size + 1 + 1, o, none⟩ = false := fun o => ((bcell B15).2 _ o zC).trans (hfz o)
    have HS := Lib.hid hs1
    have BW : Below w.heap.size w w5 := B1.trans (B15.mono (by omega))
    clear hs1 ho1 ha1 hb5 x0 x1 x2 x3 hfz c0 c1 c2 c3 c4 c5 c6 c7 c8 d0 d1 d2
    go_wp2_with fail
    refine bodyPost_ret (v := .tuple #[(⟨L.pits, L.stores, L.last, 1⟩ : Sn).val ⟨some ⟨pg, 0, none⟩, qc, some ⟨sg, 0, none⟩, tc⟩, .int .i64 0]) (by simp [results, Try.results23, go_sem, y0, y1, y2, y3, yf]) rfl ?_
    rw [HE.out]
    refine ⟨⟨some ⟨pg, 0, none⟩, qc, some ⟨sg, 0, none⟩, tc⟩, rfl, ⟨?_, ?_, .inr (by simp [Value.ownBlock]; exact HS.out.n1)⟩, ?_⟩
    · have k0 := HS.out.op
      refine ownsRow_le (base := w1.heap.size) ?_ (by omega)
      repeat (first | (with_reducible exact k0) | ((with_reducible refine ownsRow_setCell_below ?_ ?_ _); rotate_left; (simp <;> omega)))
    · have k0 := HS.out.os
      refine ownsRow_le (base := w1.heap.size) ?_ (by omega)
      repeat (first | (with_reducible exact k0) | ((with_reducible refine ownsRow_setCell_below ?_ ?_ _); rotate_left; (simp <;> omega)))
    · repeat (first | (with_reducible exact BW) | ((with_reducible refine Below.setCell ?_ ?_ _); rotate_left; (simp <;> omega)))

end Go.Proofs.Ytfnkfipeacjeaaa
