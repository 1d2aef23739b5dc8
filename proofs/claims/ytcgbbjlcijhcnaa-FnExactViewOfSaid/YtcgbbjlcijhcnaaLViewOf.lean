/- The law FnExactViewOf returns true for every argument, and every argument reads afterwards as before. No conditions. -/
import Derived.Test.YtcgbbjlcijhcnaaView3
import Derived.Test.YtcgbbjlcijhcnaaPos3
import Derived.Deep.CutRange
namespace Go.Proofs.Ytcgbbjlcijhcnaa.lViewOf
set_option linter.unusedSimpArgs false
set_option linter.unusedVariables false
set_option linter.unnecessarySimpa false
open Go.RowKit Go.ChangeShapes Go.WideShapes Go.ChangeAt Go.Joins
open Go.ChangeMaps (open_string)

set_option maxRecDepth 100000 in
set_option maxHeartbeats 32000000 in
theorem walk (r : R) (p : P) (pa sa : Option Addr) (pc sc : Nat)  (w : World) (h : PRow w p pa sa) (hm1 : p.pits.length ≤ maxLen) (hm2 : p.stores.length ≤ maxLen) (y : P × Int) (hy1 : y.1.pits.length ≤ 1048576) (hy2 : y.1.stores.length ≤ 1048576)
    (hs : ∀ (pa sa : Option Addr) (pc sc b : Nat) (w : World), POwn w b p pa pc sa sc → p.pits.length ≤ 1048576 → p.stores.length ≤ 1048576 → Calls Try.prog 16 #[r.val, p.val pa pc sa sc] w (PvRes w y))
    (hi : ∀ (pa sa : Option Addr) (pc sc b : Nat) (w : World), POwn w b p pa pc sa sc → p.pits.length ≤ 1048576 → p.stores.length ≤ 1048576 → Calls Try.prog 19 #[r.val, p.val pa pc sa sc] w (PvRes w y)) :
    Calls Try.prog 3 #[r.val, p.val pa pc sa sc] w fun e w' => e = .returned (.bool true) ∧ Below w.heap.size w w' := by
  have HS := Lib.hid hs
  have HI := Lib.hid hi
  clear hs hi
  obtain ⟨y, yc⟩ := y
  simp only at hy1 hy2
  have my1 : y.pits.length ≤ maxLen := by unfold maxLen; omega
  have my2 : y.stores.length ≤ maxLen := by unfold maxLen; omega
  have hdy : decide (y = y) = true := by simp
  have hdp : decide (p = p) = true := by simp
  go_enter Try.func3, Try.ntmps3
  go_wp2_with fail
  refine (szPosition_c p pa sa pc sc _ _ (by omega) (by omega) hm1 hm2).mono ?_
  rintro e w1 ⟨rfl, hb1⟩
  have F1 := (((Fr.start w).alloc r.cells 23).alloc (p.cells pa pc sa sc) 26).step hb1
  by_cases hl : szP 1048576 p < 0
  · go_wp2
    go_ret
    exact ⟨rfl, F1.below⟩
  obtain ⟨l1, l2⟩ := szP_len hl
  simp only [World.size_alloc] at F1
  obtain ⟨c0, c1, c2, c3, c4, c5, c6, c7, c8⟩ := R.boxc (F1.at 1 rfl)
  obtain ⟨d0, d1, d2⟩ := P.boxc (F1.at 0 rfl)
  have zA : w.heap.size < w1.heap.size := F1.le 1 rfl
  have zB : w.heap.size + 1 < w1.heap.size := F1.le 0 rfl
  clear hb1
  go_upto_region 5 with fail
  go_cut [6, 7] from 21 to 28 (fun s6 s7 wx => ∃ (nb0 : Nat) (A0 : A2) (lo0 hi0 : Nat), s6 = .pointer (some ⟨nb0, 0, none⟩) ∧ s7 = .int .i64 yc ∧ w1.heap.size ≤ nb0 ∧ w1.heap.size ≤ lo0 ∧ (hi0 ≤ nb0 ∨ nb0 + 1 ≤ lo0) ∧ Fr w wx [⟨nb0, nb0 + 1, BoxP nb0 (y.cells A0.pa A0.pc A0.sa A0.sc).toList⟩, ⟨lo0, hi0, PosP lo0 hi0 y A0.pa A0.pc A0.sa A0.sc⟩, ⟨w.heap.size + 1, w.heap.size + 1 + 1, BoxP (w.heap.size + 1) (p.cells pa pc sa sc).toList⟩, ⟨w.heap.size, w.heap.size + 1, BoxP w.heap.size r.cells.toList⟩])
  case first =>
    go_region_held3 (fun w' => ∀ b o, b < w1.heap.size → w'.cell? ⟨b, o, none⟩ = w1.cell? ⟨b, o, none⟩)
      ((intro b o hbo; refine Below.cell (B := w1.heap.size) ?_ (show (Addr.mk b o none).block < _ from hbo); first | (with_reducible exact G4.below) | (with_reducible exact G4.below.alloc G4.below.size _) | (with_reducible exact G3.below) | (with_reducible exact G3.below.alloc G3.below.size _) | (with_reducible exact G2.below) | (with_reducible exact G2.below.alloc G2.below.size _) | (with_reducible exact (Fr.start w1).drew.below) | (with_reducible exact ((Fr.start w1).allocF _ _).drew.below) | (repeat (first | (with_reducible exact G4.below) | ((with_reducible refine Below.setCell ?_ ?_ _); rotate_left; (simp <;> omega))))))
      (first
      | (go_at_call 16; first | (refine (HS.out qa3 ta3 qc3 tc3 _ _ ho3 l1 l2).mono ?_) | (refine (HS.out qa3 ta3 qc3 tc3 _ _ (ho3.below (below_alloc1 _ _) (Nat.le_refl _)) l1 l2).mono ?_)
         rintro e w4 ⟨B4, rfl, ho4, hb4⟩
         first | (have G4 := G3.step hb4) | (have G4 := (G3.allocF #[.slice none 0 0, .slice none 0 0, .int .i64 0] 28).step hb4)
         have s4 := hb4.size
         try simp only [World.size_alloc, World.size_drew] at s4
         try (obtain ⟨bx, bf⟩ := G4.at 0 rfl; have x0 := bx 0 _ rfl; have x1 := bx 1 _ rfl; have x2 := bx 2 _ rfl; try simp only [World.size_alloc, World.size_drew] at x0 x1 x2 bf))
      | (go_at_call 18; first | (refine (toPosition_c p pa sa pc sc _ (h.below ((F1.below).trans (Below.mono G2.below (by have := F1.below.size; omega))) (Nat.le_refl _)) l1 l2).mono ?_) | (refine (toPosition_c p pa sa pc sc _ (h.below ((F1.below).trans (Below.mono (G2.below.alloc G2.below.size _) (by have := F1.below.size; omega))) (Nat.le_refl _)) l1 l2).mono ?_)
         rintro e w3 ⟨qa3, qc3, ta3, tc3, rfl, ho3, hb3⟩
         first | (have G3 := G2.step hb3) | (have G3 := (G2.allocF #[.slice none 0 0, .slice none 0 0, .int .i64 0] 28).step hb3)
         have s3 := hb3.size
         try simp only [World.size_alloc, World.size_drew] at s3)
      | (go_at_call 17; refine (toRules_c r _).mono ?_; rintro e w2 ⟨rfl, hb2⟩
         first | (have G2 := (Fr.start w1).drew.step hb2) | (have G2 := ((Fr.start w1).allocF #[.slice none 0 0, .slice none 0 0, .int .i64 0] 28).drew.step hb2)
         have s2 := hb2.size
         try simp only [World.size_alloc, World.size_drew] at s2))
    all_goals (go_wp2_with fail)
    all_goals go_meet
    all_goals
      try simp only [World.size_alloc, World.size_drew] at ho4
      have FF := (F1.step G4.below).pos ho4
      first
      | (refine ⟨_, B4, _, _, rfl, rfl, ?_, ?_, ?_, FF.alloc (y.cells B4.pa B4.pc B4.sa B4.sc) 28⟩ <;> (first | omega | (left; omega)))
      | (refine ⟨_, B4, _, _, rfl, rfl, ?_, ?_, ?_, FF.stored3 ?_ ?_ x0 x1 x2⟩ <;> (first | omega | (right; omega) | (simp; omega)))
  case rest =>
  obtain ⟨nb0, A0, lo0, hi0, rfl, rfl, n01, n02, n03, F5⟩ := hcut
  clear c0 c1 c2 c3 c4 c5 c6 c7 c8 d0 d1 d2 zA zB F1
  obtain ⟨d0, d1, d2⟩ := P.boxc (F5.at 2 rfl)
  have zB : w.heap.size + 1 < wc.heap.size := F5.le 2 rfl
  go_upto_region 6 with fail
  go_cut [8] from 29 to 30 (fun s8 wx => ∃ (nbx : Nat) (qx : Option Addr) (qxc : Nat) (tx : Option Addr) (txc lox hix : Nat), s8 = .pointer (some ⟨nbx, 0, none⟩) ∧ nb0 + 1 ≤ lox ∧ hi0 ≤ lox ∧ w.heap.size + 1 + 1 ≤ lox ∧ hix ≤ nbx ∧ lox ≤ hix ∧ Fr w wx [⟨nbx, nbx + 1, BoxP nbx (p.cells qx qxc tx txc).toList⟩, ⟨lox, hix, PosP lox hix p qx qxc tx txc⟩, ⟨nb0, nb0 + 1, BoxP nb0 (y.cells A0.pa A0.pc A0.sa A0.sc).toList⟩, ⟨lo0, hi0, PosP lo0 hi0 y A0.pa A0.pc A0.sa A0.sc⟩, ⟨w.heap.size + 1, w.heap.size + 1 + 1, BoxP (w.heap.size + 1) (p.cells pa pc sa sc).toList⟩, ⟨w.heap.size, w.heap.size + 1, BoxP w.heap.size r.cells.toList⟩])
  case first =>
    have z1 : nb0 + 1 ≤ wc.heap.size := F5.le 0 rfl
    have z2 : hi0 ≤ wc.heap.size := F5.le 1 rfl
    go_wp2_with fail
    refine (toPosition_c p pa sa pc sc _ (h.below F5.below (Nat.le_refl _)) l1 l2).mono ?_
    rintro e w6 ⟨qa6, qc6, ta6, tc6, rfl, ho6, hb6⟩
    have F6 := ((F5.step hb6).pos ho6).alloc (p.cells qa6 qc6 ta6 tc6) 28
    have z6 := hb6.size
    clear ho6 hb6 F5
    go_wp2_with fail
    go_meet
    exact ⟨_, qa6, qc6, ta6, tc6, _, _, rfl, z1, z2, zB, Nat.le_refl _, z6, F6⟩
  case rest =>
  obtain ⟨nbx, qx, qxc, tx, txc, lox, hix, rfl, x01, x02, x03, x04, x05, F6⟩ := hcut
  clear d0 d1 d2 zB F5
  obtain ⟨c0, c1, c2, c3, c4, c5, c6, c7, c8⟩ := R.boxc (F6.at 5 rfl)
  obtain ⟨d0, d1, d2⟩ := P.boxc (F6.at 0 rfl)
  have zA : w.heap.size < wc.heap.size := F6.le 5 rfl
  have zB : nbx < wc.heap.size := F6.le 0 rfl
  have y1 : hix ≤ wc.heap.size := F6.le 1 rfl
  have y2 : nb0 + 1 ≤ wc.heap.size := F6.le 2 rfl
  have y3 : hi0 ≤ wc.heap.size := F6.le 3 rfl
  have y4 : w.heap.size + 1 + 1 ≤ wc.heap.size := F6.le 4 rfl
  go_upto_region 7 with fail
  go_cut [9, 10] from 31 to 37 (fun s9 s10 wx => ∃ (nb1 : Nat) (A1 : A2) (lo1 hi1 : Nat), s9 = .pointer (some ⟨nb1, 0, none⟩) ∧ s10 = .int .i64 yc ∧ nbx + 1 ≤ lo1 ∧ nb0 + 1 ≤ lo1 ∧ hi0 ≤ lo1 ∧ w.heap.size + 1 + 1 ≤ lo1 ∧ hix ≤ lo1 ∧ hix ≤ nb1 ∧ (hi1 ≤ nb1 ∨ nb1 + 1 ≤ lo1) ∧ Fr w wx [⟨nb1, nb1 + 1, BoxP nb1 (y.cells A1.pa A1.pc A1.sa A1.sc).toList⟩, ⟨lo1, hi1, PosP lo1 hi1 y A1.pa A1.pc A1.sa A1.sc⟩, ⟨nbx, nbx + 1, BoxP nbx (p.cells qx qxc tx txc).toList⟩, ⟨lox, hix, PosP lox hix p qx qxc tx txc⟩, ⟨nb0, nb0 + 1, BoxP nb0 (y.cells A0.pa A0.pc A0.sa A0.sc).toList⟩, ⟨lo0, hi0, PosP lo0 hi0 y A0.pa A0.pc A0.sa A0.sc⟩, ⟨w.heap.size + 1, w.heap.size + 1 + 1, BoxP (w.heap.size + 1) (p.cells pa pc sa sc).toList⟩, ⟨w.heap.size, w.heap.size + 1, BoxP w.heap.size r.cells.toList⟩])
  case first =>
    go_region_held3 (fun w' => ∀ b o, b < wc.heap.size → w'.cell? ⟨b, o, none⟩ = wc.cell? ⟨b, o, none⟩)
      ((intro b o hbo; refine Below.cell (B := wc.heap.size) ?_ (show (Addr.mk b o none).block < _ from hbo); first | (with_reducible exact G8.below) | (with_reducible exact G8.below.alloc G8.below.size _) | (with_reducible exact G7.below) | (with_reducible exact G7.below.alloc G7.below.size _) | (with_reducible exact (Fr.start wc).drew.below) | (with_reducible exact ((Fr.start wc).allocF _ _).drew.below) | (repeat (first | (with_reducible exact G8.below) | ((with_reducible refine Below.setCell ?_ ?_ _); rotate_left; (simp <;> omega))))))
      (first
      | (go_at_call 19; first | (refine (HI.out qx tx qxc txc _ _ ((F6.step G7.below).at 1 rfl).1 l1 l2).mono ?_) | (refine (HI.out qx tx qxc txc _ _ ((F6.step (G7.below.alloc G7.below.size _)).at 1 rfl).1 l1 l2).mono ?_)
         rintro e w8 ⟨B8, rfl, ho8, hb8⟩
         first | (have G8 := G7.step hb8) | (have G8 := (G7.allocF #[.slice none 0 0, .slice none 0 0, .int .i64 0] 28).step hb8)
         have s8 := hb8.size
         try simp only [World.size_alloc, World.size_drew] at s8
         try (obtain ⟨bx, bf⟩ := G8.at 0 rfl; have x0 := bx 0 _ rfl; have x1 := bx 1 _ rfl; have x2 := bx 2 _ rfl; try simp only [World.size_alloc, World.size_drew] at x0 x1 x2 bf))
      | (go_at_call 17; refine (toRules_c r _).mono ?_; rintro e w7 ⟨rfl, hb7⟩
         first | (have G7 := (Fr.start wc).drew.step hb7) | (have G7 := ((Fr.start wc).allocF #[.slice none 0 0, .slice none 0 0, .int .i64 0] 28).drew.step hb7)
         have s7 := hb7.size
         try simp only [World.size_alloc, World.size_drew] at s7))
    all_goals (go_wp2_with fail)
    all_goals go_meet
    all_goals
      try simp only [World.size_alloc, World.size_drew] at ho8
      have FF := (F6.step G8.below).pos ho8
      first
      | (refine ⟨_, B8, _, _, rfl, rfl, ?_, ?_, ?_, ?_, ?_, ?_, ?_, FF.alloc (y.cells B8.pa B8.pc B8.sa B8.sc) 28⟩ <;> (first | omega | (left; omega)))
      | (refine ⟨_, B8, _, _, rfl, rfl, ?_, ?_, ?_, ?_, ?_, ?_, ?_, FF.stored3 ?_ ?_ x0 x1 x2⟩ <;> (first | omega | (right; omega) | (simp; omega)))
  case rest =>
  obtain ⟨nb1, A1, lo1, hi1, rfl, rfl, g01, g02, g03, g04, g05, g06, g07, F8⟩ := hcut
  clear c0 c1 c2 c3 c4 c5 c6 c7 c8 d0 d1 d2 zA zB y1 y2 y3 y4 F6
  obtain ⟨e0, e1, e2⟩ := (⟨F8.at 0 rfl 0 _ rfl, F8.at 0 rfl 1 _ rfl, F8.at 0 rfl 2 _ rfl⟩ : _ ∧ _ ∧ _)
  obtain ⟨f0, f1, f2⟩ := (⟨F8.at 4 rfl 0 _ rfl, F8.at 4 rfl 1 _ rfl, F8.at 4 rfl 2 _ rfl⟩ : _ ∧ _ ∧ _)
  go_wp2_with fail
  refine (eqPosition_c y y A1.pa A1.sa A0.pa A0.sa A1.pc A1.sc A0.pc A0.sc _ (F8.at 1 rfl).1.row (F8.at 5 rfl).1.row my1 my2 my1 my2).mono ?_
  rintro e w9 ⟨rfl, hb9⟩
  have F9 := F8.step hb9
  clear e0 e1 e2 f0 f1 f2 hb9 F8
  obtain ⟨q0, q1, q2⟩ := P.boxc (F9.at 2 rfl)
  obtain ⟨d0, d1, d2⟩ := P.boxc (F9.at 6 rfl)
  have zA : w.heap.size + 1 < w9.heap.size := F9.le 6 rfl
  have zB : nbx < w9.heap.size := F9.le 2 rfl
  go_wp2_with fail
  go_region_held3 (fun w' => ∀ b o, b < w9.heap.size → w'.cell? ⟨b, o, none⟩ = w9.cell? ⟨b, o, none⟩) (first | exact hcB | exact hcA | (intro b o h; rfl))
    (first
      | (go_at_call 18; refine (toPosition_c p pa sa pc sc _ (h.below F9.drew.below (Nat.le_refl _)) l1 l2).mono ?_; rintro e w10 ⟨qa10, qc10, ta10, tc10, rfl, ho10, hb10⟩; have hcA : ∀ b o, b < w9.heap.size → w10.cell? ⟨b, o, none⟩ = w9.cell? ⟨b, o, none⟩ := fun b o h => (bcell hb10).1 b o h)
      | (go_at_call 20; refine (eqPosition_c p p qx tx qa10 ta10 qxc txc qc10 tc10 _ ((F9.drew.step hb10).at 3 rfl).1.row ho10.row hm1 hm2 hm1 hm2).mono ?_; rintro e w11 ⟨rfl, hb11⟩; have hcB : ∀ b o, b < w9.heap.size → w11.cell? ⟨b, o, none⟩ = w9.cell? ⟨b, o, none⟩ := fun b o h => ((bcell hb11).1 b o (Nat.lt_of_lt_of_le h hb10.size)).trans (hcA b o h)))
  have F11 := (F9.drew.step hb10).step hb11
  clear hcA hcB hb10 hb11 ho10 F9 q0 q1 q2 d0 d1 d2 zA zB
  obtain ⟨q0, q1, q2⟩ := P.boxc (F11.at 2 rfl)
  have hX := F11.at 3 rfl
  go_wp2_with fail
  refine (markPosition_c _ _ p qx tx qxc txc 1 _ hX.1 hX.2.1 hX.2.2 (by omega) (by omega)).mono ?_
  rintro e w12 ⟨rfl, hg12⟩
  have F12 := F11.chgAt 3 hg12 (by omega) (by simp [List.eraseIdx]; omega)
  clear hg12 hX F11 q0 q1 q2
  obtain ⟨e0, e1, e2⟩ := (⟨F12.at 0 rfl 0 _ rfl, F12.at 0 rfl 1 _ rfl, F12.at 0 rfl 2 _ rfl⟩ : _ ∧ _ ∧ _)
  obtain ⟨f0, f1, f2⟩ := (⟨F12.at 3 rfl 0 _ rfl, F12.at 3 rfl 1 _ rfl, F12.at 3 rfl 2 _ rfl⟩ : _ ∧ _ ∧ _)
  go_wp2_with fail
  refine (eqPosition_c y y A1.pa A1.sa A0.pa A0.sa A1.pc A1.sc A0.pc A0.sc _ (F12.at 1 rfl).1.row (F12.at 4 rfl).1.row my1 my2 my1 my2).mono ?_
  rintro e w13 ⟨rfl, hb13⟩
  have F13 := F12.step hb13
  clear e0 e1 e2 f0 f1 f2 hb13 F12
  obtain ⟨e0, e1, e2⟩ := (⟨F13.at 0 rfl 0 _ rfl, F13.at 0 rfl 1 _ rfl, F13.at 0 rfl 2 _ rfl⟩ : _ ∧ _ ∧ _)
  have hX := F13.at 1 rfl
  go_wp2_with fail
  refine (markPosition2_c _ _ y A1 1 _ hX.1 hX.2.1 hX.2.2 (by omega) (by omega)).mono ?_
  rintro e w14 ⟨rfl, hm14, hg14⟩
  have F14 := (F13.chgAt 1 hg14 (by omega) (by simp [List.eraseIdx]; omega)).markQ hm14
  clear e0 e1 e2 hX hm14 hg14 F13
  obtain ⟨e0, e1, e2⟩ := (⟨F14.at 1 rfl 0 _ rfl, F14.at 1 rfl 1 _ rfl, F14.at 1 rfl 2 _ rfl⟩ : _ ∧ _ ∧ _)
  go_wp2_with fail
  refine (heldPosition_c y A1 1 _ (own_row (F14.at 0 rfl).1.pits) (own_row (F14.at 0 rfl).1.stores) (by omega) (by omega)).mono ?_
  rintro e w16 ⟨rfl, hb16⟩
  have F16 := F14.step hb16
  obtain ⟨hi2, hhi2⟩ : ∃ n, n = w14.heap.size := ⟨_, rfl⟩
  rw [← hhi2] at F16
  clear e0 e1 e2 hb16 F14 hhi2
  obtain ⟨c0, c1, c2, c3, c4, c5, c6, c7, c8⟩ := R.boxc (F16.at 6 rfl)
  obtain ⟨d0, d1, d2⟩ := P.boxc (F16.at 5 rfl)
  have zA : w.heap.size < w16.heap.size := F16.le 6 rfl
  have zB : w.heap.size + 1 < w16.heap.size := F16.le 5 rfl
  have y0 : hi2 ≤ w16.heap.size := F16.le 0 rfl
  have y1 : nb1 + 1 ≤ w16.heap.size := F16.le 1 rfl
  have y2 : nbx + 1 ≤ w16.heap.size := F16.le 2 rfl
  have y3 : nb0 + 1 ≤ w16.heap.size := F16.le 3 rfl
  have y4 : hi0 ≤ w16.heap.size := F16.le 4 rfl
  go_upto_region 24 with fail
  go_cut [14, 15] from 79 to 86 (fun s14 s15 wx => ∃ (nb2 : Nat) (A2 : A2) (lo2 hi3 : Nat), s14 = .pointer (some ⟨nb2, 0, none⟩) ∧ s15 = .int .i64 yc ∧ Fr w wx [⟨nb2, nb2 + 1, BoxP nb2 (y.cells A2.pa A2.pc A2.sa A2.sc).toList⟩, ⟨lo2, hi3, PosP lo2 hi3 y A2.pa A2.pc A2.sa A2.sc⟩, ⟨lo1, hi2, MarkQ lo1 hi2 y.pits.length y.stores.length A1 1⟩, ⟨nb1, nb1 + 1, BoxP nb1 (y.cells A1.pa A1.pc A1.sa A1.sc).toList⟩, ⟨nbx, nbx + 1, BoxP nbx (p.cells qx qxc tx txc).toList⟩, ⟨nb0, nb0 + 1, BoxP nb0 (y.cells A0.pa A0.pc A0.sa A0.sc).toList⟩, ⟨lo0, hi0, PosP lo0 hi0 y A0.pa A0.pc A0.sa A0.sc⟩, ⟨w.heap.size + 1, w.heap.size + 1 + 1, BoxP (w.heap.size + 1) (p.cells pa pc sa sc).toList⟩, ⟨w.heap.size, w.heap.size + 1, BoxP w.heap.size r.cells.toList⟩])
  case first =>
    go_region_held3 (fun w' => ∀ b o, b < w16.heap.size → w'.cell? ⟨b, o, none⟩ = w16.cell? ⟨b, o, none⟩)
      ((intro b o hbo; refine Below.cell (B := w16.heap.size) ?_ (show (Addr.mk b o none).block < _ from hbo); first | (with_reducible exact G19.below) | (with_reducible exact G19.below.alloc G19.below.size _) | (with_reducible exact G18.below) | (with_reducible exact G18.below.alloc G18.below.size _) | (with_reducible exact G17.below) | (with_reducible exact G17.below.alloc G17.below.size _) | (with_reducible exact (Fr.start w16).drew.below) | (with_reducible exact ((Fr.start w16).allocF _ _).drew.below) | (repeat (first | (with_reducible exact G19.below) | ((with_reducible refine Below.setCell ?_ ?_ _); rotate_left; (simp <;> omega))))))
      (first
      | (go_at_call 19; first | (refine (HI.out qa18 ta18 qc18 tc18 _ _ ho18 l1 l2).mono ?_) | (refine (HI.out qa18 ta18 qc18 tc18 _ _ (ho18.below (below_alloc1 _ _) (Nat.le_refl _)) l1 l2).mono ?_)
         rintro e w19 ⟨B19, rfl, ho19, hb19⟩
         first | (have G19 := G18.step hb19) | (have G19 := (G18.allocF #[.slice none 0 0, .slice none 0 0, .int .i64 0] 28).step hb19)
         have s19 := hb19.size
         try simp only [World.size_alloc, World.size_drew] at s19
         try (obtain ⟨bx, bf⟩ := G19.at 0 rfl; have x0 := bx 0 _ rfl; have x1 := bx 1 _ rfl; have x2 := bx 2 _ rfl; try simp only [World.size_alloc, World.size_drew] at x0 x1 x2 bf))
      | (go_at_call 18; first | (refine (toPosition_c p pa sa pc sc _ (h.below ((F16.below).trans (Below.mono G17.below (by have := F16.below.size; omega))) (Nat.le_refl _)) l1 l2).mono ?_) | (refine (toPosition_c p pa sa pc sc _ (h.below ((F16.below).trans (Below.mono (G17.below.alloc G17.below.size _) (by have := F16.below.size; omega))) (Nat.le_refl _)) l1 l2).mono ?_)
         rintro e w18 ⟨qa18, qc18, ta18, tc18, rfl, ho18, hb18⟩
         first | (have G18 := G17.step hb18) | (have G18 := (G17.allocF #[.slice none 0 0, .slice none 0 0, .int .i64 0] 28).step hb18)
         have s18 := hb18.size
         try simp only [World.size_alloc, World.size_drew] at s18)
      | (go_at_call 17; refine (toRules_c r _).mono ?_; rintro e w17 ⟨rfl, hb17⟩
         first | (have G17 := (Fr.start w16).drew.step hb17) | (have G17 := ((Fr.start w16).allocF #[.slice none 0 0, .slice none 0 0, .int .i64 0] 28).drew.step hb17)
         have s17 := hb17.size
         try simp only [World.size_alloc, World.size_drew] at s17))
    all_goals (go_wp2_with fail)
    all_goals go_meet
    all_goals
      try simp only [World.size_alloc, World.size_drew] at ho19
      have FF := (F16.step G19.below).pos ho19
      first
      | (refine ⟨_, B19, _, _, rfl, rfl, FF.alloc (y.cells B19.pa B19.pc B19.sa B19.sc) 28⟩)
      | (refine ⟨_, B19, _, _, rfl, rfl, FF.stored3 ?_ ?_ x0 x1 x2⟩ <;> (first | omega | (simp; omega)))
  case rest =>
  obtain ⟨nb2, A2, lo2, hi3, rfl, rfl, F20⟩ := hcut
  clear c0 c1 c2 c3 c4 c5 c6 c7 c8 d0 d1 d2 zA zB y0 y1 y2 y3 y4 F16
  obtain ⟨e0, e1, e2⟩ := (⟨F20.at 0 rfl 0 _ rfl, F20.at 0 rfl 1 _ rfl, F20.at 0 rfl 2 _ rfl⟩ : _ ∧ _ ∧ _)
  obtain ⟨f0, f1, f2⟩ := (⟨F20.at 5 rfl 0 _ rfl, F20.at 5 rfl 1 _ rfl, F20.at 5 rfl 2 _ rfl⟩ : _ ∧ _ ∧ _)
  go_wp2_with fail
  refine (eqPosition_c y y A2.pa A2.sa A0.pa A0.sa A2.pc A2.sc A0.pc A0.sc _ (F20.at 1 rfl).1.row (F20.at 6 rfl).1.row my1 my2 my1 my2).mono ?_
  rintro e w21 ⟨rfl, hb21⟩
  have F21 := F20.step hb21
  clear e0 e1 e2 f0 f1 f2 hb21 F20
  obtain ⟨e0, e1, e2⟩ := (⟨F21.at 3 rfl 0 _ rfl, F21.at 3 rfl 1 _ rfl, F21.at 3 rfl 2 _ rfl⟩ : _ ∧ _ ∧ _)
  go_wp2_with fail
  refine (heldPosition_c y A1 1 _ (own_row (F21.at 2 rfl).1.pits) (own_row (F21.at 2 rfl).1.stores) (by omega) (by omega)).mono ?_
  rintro e w22 ⟨rfl, hb22⟩
  have F22 := F21.step hb22
  clear e0 e1 e2 hb22 F21
  go_wp2
  go_ret
  exact ⟨rfl, F22.below⟩
theorem walked (r : R) (p : P) (pa sa : Option Addr) (pc sc : Nat) (w : World) (h : PRow w p pa sa) (hm1 : p.pits.length ≤ maxLen) (hm2 : p.stores.length ≤ maxLen) :
    Calls Try.prog 3 #[r.val, p.val pa pc sa sc] w fun e w' => e = .returned (.bool true) ∧ Below w.heap.size w w' :=
  walk r p pa sa pc sc w h hm1 hm2 (vofP r p) (vofP_len r p).1 (vofP_len r p).2 (fun pa sa pc sc b w h l1 l2 => sViewOf_c r p pa sa pc sc w h.row (by omega) (by omega) (own_caps h.pits).1 (own_caps h.pits).2) (fun pa sa pc sc b w h l1 l2 => iViewOf_c r p pa sa pc sc w h.row (by omega) (by omega) (own_caps h.pits).1 (own_caps h.pits).2)

set_option maxRecDepth 100000 in
theorem contract (H : Type) (enc : TypeId × Value → H) (W : World) (base : Nat) (args : Array Value) (ds gs : List (DataW H)) (before : List MemPlace)
    (hval : ∀ (j : Nat) t v, Try.f3.params[j]? = some t → args[j]? = some v → Value.okWide Try.prog W .any base t v)
    (hW : DataW.Whole enc Try.prog Try.f3.params.toList Rows.fnExactViewOfSpec.vars false W args.toList ds gs before) :
    Calls Try.prog 3 args W fun e W' => ∃ v, e = .returned v ∧ Rows.fnExactViewOfSpec.post enc Try.prog Try.f3 false true false false W args v W' := by
  have hW' := hW
  obtain ⟨p, q, hA0, hV, rfl, hfz, hnd⟩ := hW
  have hA : DataW.TrodAll enc Try.prog W 0 (fun _ => true) true Try.f3.params.toList args.toList ds p := hA0
  rw [Try.params3] at hA hval
  obtain ⟨v0, vs0, d0, ds0, p0, q0, hargs, rfl, rfl, h0, r0⟩ := trodAll_cons hA
  obtain ⟨v1, vs1, d1, ds1, p1, q1, rfl, rfl, rfl, h1, r1⟩ := trodAll_cons r0
  obtain ⟨rfl, rfl, rfl⟩ := trodAll_nil r1
  obtain rfl : args = #[v0, v1] := by cases args; simp_all
  obtain ⟨a0, rfl, w0⟩ := arg_rules (hval 0 23 v0 rfl rfl) h0
  obtain ⟨p1p, pa1, pc1, sa1, sc1, rfl, w1⟩ := arg_pos (hval 1 26 v1 rfl rfl) h1
  refine (walked a0 p1p pa1 sa1 pc1 sc1 W w1.1 w1.2.1 w1.2.2.1).mono fun e W' ⟨he, hb⟩ => ?_
  subst he
  exact ⟨_, rfl, law_post hW' hb rfl rfl (by kernel_rfl) rfl⟩

set_option maxRecDepth 100000 in
theorem lifted (os : Os) (started : os.Started) (H : Type) (enc : TypeId × Value → H) :
    ReturnsInHanded {} Try.checked os 3 .any (Rows.fnExactViewOfSpec.pre6 enc Try.prog Try.f3 Rows.fnExactViewOfRow.domain false) (Rows.fnExactViewOfSpec.post enc Try.prog Try.f3 false true false false) := by
  refine returnsInHanded_of_change (C := Try.checked) (s := Rows.fnExactViewOfSpec) own started (by kernel_rfl) Try.func3
    (ChangeSpec.witness6 (enc := enc) (C := Try.checked) (s := Rows.fnExactViewOfSpec) false ⟨#[], #[.agg #[.int .i64 0, .int .i64 0, .bool false, .bool false, .bool false, .bool false, .bool false, .int .i64 0, .int .i64 0], .agg #[.slice none 0 0, .slice none 0 0, .int .i64 0]], []⟩ 8 (by kernel_rfl) (by kernel_rfl) (by kernel_rfl) (by kernel_rfl)) ?_
  intro W base args ds gs before hval hW _ _
  exact contract H enc W base args ds gs before hval hW

theorem proved : Rows.FnExactViewOfSaid :=
  OpenClaim.holds_of_wide 3 Try.f3 rfl rfl rfl rfl rfl rfl rfl ⟨rfl, rfl, rfl, rfl, rfl⟩ rfl rfl rfl rfl rfl (by kernel_rfl) Try.func3 (by kernel_rfl)
    (of_decide_eq_true (by kernel_rfl)) (by unfold Func.isWrapper; first | (rw [if_pos (by decide +kernel)]; kernel_rfl) | (rw [if_neg (by decide +kernel)]; exact ⟨rfl, rfl⟩))
    (fun os started H enc _ => lifted os started H enc)
end Go.Proofs.Ytcgbbjlcijhcnaa.lViewOf
