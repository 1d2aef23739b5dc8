/- The law FnExactApplyFacts returns true for every argument, and every argument reads afterwards as before. No conditions. -/
import Derived.Test.YtbjgigdkbjabaaaFactE
import Derived.Test.YtbjgigdkbjabaaaPos2
import Derived.Deep.CutRange
namespace Go.Proofs.Ytbjgigdkbjabaaa.lApplyFacts
set_option linter.unusedSimpArgs false
set_option linter.unusedVariables false
set_option linter.unnecessarySimpa false
open Go.RowKit Go.ChangeShapes Go.WideShapes Go.ChangeAt Go.Joins
open Go.ChangeMaps (open_string)

theorem szP_rng {left : Int} {p : P} (h : ¬ szP left p < 0) : 0 ≤ szP left p ∧ szP left p ≤ left := by
  unfold szP szI at h ⊢
  repeat' split
  all_goals (try omega)
  all_goals (simp_all <;> omega)
theorem Fr.rot {w0 w : World} {x : Res} {ls : List Res} (h : Fr w0 w (x :: ls)) : Fr w0 w (ls ++ [x]) := ⟨h.below, fun r hr => h.res r (by simp at hr ⊢; exact hr.symm)⟩
set_option maxRecDepth 100000 in
set_option maxHeartbeats 32000000 in
theorem walk (r : R) (p : P) (pa sa : Option Addr) (pc sc : Nat) (fs : List Fc) (fa : Option Addr) (fc : Nat) (w : World) (h : PRow w p pa sa) (hf : Row w fa (flat fcRL.f fs)) (hfm : fs.length ≤ maxLen) (hm1 : p.pits.length ≤ maxLen) (hm2 : p.stores.length ≤ maxLen) (y : P × Int) 
    (hy1 : y.1.pits.length ≤ 1048576) (hy2 : y.1.stores.length ≤ 1048576)
    (hs : ∀ (pa sa : Option Addr) (pc sc b : Nat) (ga : Option Addr) (gc : Nat) (w : World), POwn w b p pa pc sa sc → Row w ga (flat fcRL.f fs) → p.pits.length ≤ 1048576 → p.stores.length ≤ 1048576 → fs.length ≤ 1048576 → Calls Try.prog 12 #[r.val, p.val pa pc sa sc, .slice ga fs.length gc] w (PvRes w y))
    (hi : ∀ (pa sa : Option Addr) (pc sc b : Nat) (ga : Option Addr) (gc : Nat) (w : World), POwn w b p pa pc sa sc → Row w ga (flat fcRL.f fs) → p.pits.length ≤ 1048576 → p.stores.length ≤ 1048576 → fs.length ≤ 1048576 → Calls Try.prog 16 #[r.val, p.val pa pc sa sc, .slice ga fs.length gc] w (PvRes w y)) :
    Calls Try.prog 3 #[r.val, p.val pa pc sa sc, .slice fa fs.length fc] w fun e w' => e = .returned (.bool true) ∧ Below w.heap.size w w' := by
  have HS := Lib.hid hs
  have HI := Lib.hid hi
  clear hs hi
  obtain ⟨y, yc⟩ := y
  simp only at hy1 hy2
  have my1 : y.pits.length ≤ maxLen := by unfold maxLen; omega
  have my2 : y.stores.length ≤ maxLen := by unfold maxLen; omega
  have hdy : decide (y = y) = true := by simp
  have hdp : decide (p = p) = true := by simp
  go_enter Try.func3, Try.ntmps3
  go_wp2_with fail
  refine (szPosition_c p pa sa pc sc _ _ (by omega) (by omega) hm1 hm2).mono ?_
  rintro e w1 ⟨rfl, hb1⟩
  have F1 := (((Fr.start w).alloc r.cells 23).alloc (p.cells pa pc sa sc) 26).step hb1
  by_cases hl : szP 1048576 p < 0
  · go_wp2
    go_ret
    exact ⟨rfl, F1.below⟩
  obtain ⟨l1, l2⟩ := szP_len hl
  obtain ⟨u0, u1⟩ := szP_rng hl
  obtain ⟨lf, hlf⟩ : ∃ lf, lf = szP 1048576 p := ⟨_, rfl⟩
  rw [← hlf] at hl u0 u1
  go_upto_region 5 with fail
  try rw [← hlf]
  clear hlf
  go_wp2_with fail
  refine (szFactS_c fa fs.length fc lf _ u0 u1 hfm).mono ?_
  rintro e wz ⟨rfl, rfl⟩
  by_cases hz : szI lf fs.length < 0
  · go_wp2
    go_ret
    exact ⟨rfl, F1.below⟩
  have l3 : fs.length ≤ 1048576 := by unfold szI at hz; split at hz <;> omega
  simp only [World.size_alloc] at F1
  obtain ⟨c0, c1, c2, c3, c4, c5, c6, c7, c8⟩ := R.boxc (F1.at 1 rfl)
  obtain ⟨d0, d1, d2⟩ := P.boxc (F1.at 0 rfl)
  have zA : w.heap.size < w1.heap.size := F1.le 1 rfl
  have zB : w.heap.size + 1 < w1.heap.size := F1.le 0 rfl
  clear hb1
  go_upto_region 8 with fail
  go_cut [8, 9] from 29 to 38 (fun s8 s9 wx => ∃ (nb0 : Nat) (A0 : A2) (lo0 hi0 : Nat), s8 = .pointer (some ⟨nb0, 0, none⟩) ∧ s9 = .int .i64 yc ∧ w1.heap.size ≤ nb0 ∧ w1.heap.size ≤ lo0 ∧ (hi0 ≤ nb0 ∨ nb0 + 1 ≤ lo0) ∧ Fr w wx [⟨nb0, nb0 + 1, BoxP nb0 (y.cells A0.pa A0.pc A0.sa A0.sc).toList⟩, ⟨lo0, hi0, PosP lo0 hi0 y A0.pa A0.pc A0.sa A0.sc⟩, ⟨w.heap.size + 1, w.heap.size + 1 + 1, BoxP (w.heap.size + 1) (p.cells pa pc sa sc).toList⟩, ⟨w.heap.size, w.heap.size + 1, BoxP w.heap.size r.cells.toList⟩])
  case first =>
    go_region_held3 (fun w' => ∀ b o, b < w1.heap.size → w'.cell? ⟨b, o, none⟩ = w1.cell? ⟨b, o, none⟩)
      ((intro b o hbo; refine Below.cell (B := w1.heap.size) ?_ (show (Addr.mk b o none).block < _ from hbo); first | (with_reducible exact GJ.below) | (with_reducible exact G4.below) | (with_reducible exact G4.below.alloc G4.below.size _) | (with_reducible exact GJ.below.alloc GJ.below.size _) | (with_reducible exact G3.below) | (with_reducible exact G3.below.alloc G3.below.size _) | (with_reducible exact G2.below) | (with_reducible exact G2.below.alloc G2.below.size _) | (with_reducible exact (Fr.start w1).drew.below) | (with_reducible exact ((Fr.start w1).allocF _ _).drew.below) | (repeat (first | (with_reducible exact GJ.below) | ((with_reducible refine Below.setCell ?_ ?_ _); rotate_left; (simp <;> omega))))))
      (first
      | (go_at_call 12; first | (refine (HS.out qa3 ta3 qc3 tc3 _ ga4 gc4 _ (P4.at 1 rfl).1 (fc_row (P4.at 0 rfl)) l1 l2 l3).mono ?_) | (refine (HS.out qa3 ta3 qc3 tc3 _ ga4 gc4 _ ((P4.step (below_alloc1 _ _)).at 1 rfl).1 (fc_row ((P4.step (below_alloc1 _ _)).at 0 rfl)) l1 l2 l3).mono ?_)
         rintro e wJ ⟨BJ, rfl, hoJ, hbJ⟩
         first | (have GJ := G4.step hbJ) | (have GJ := (G4.allocF #[.slice none 0 0, .slice none 0 0, .int .i64 0] 30).step hbJ)
         have sJ := hbJ.size
         try simp only [World.size_alloc, World.size_drew] at sJ
         try (obtain ⟨bx, bf⟩ := GJ.at 0 rfl; have x0 := bx 0 _ rfl; have x1 := bx 1 _ rfl; have x2 := bx 2 _ rfl; try simp only [World.size_alloc, World.size_drew] at x0 x1 x2 bf))
      | (go_at_call 15; first | (refine (toFactS_c fs fa fc _ (hf.below ((F1.below).trans (Below.mono G3.below (by have := F1.below.size; omega))) (Nat.le_refl _)) l3).mono ?_) | (refine (toFactS_c fs fa fc _ (hf.below ((F1.below).trans (Below.mono (G3.below.alloc G3.below.size _) (by have := F1.below.size; omega))) (Nat.le_refl _)) l3).mono ?_)
         rintro e w4 ⟨ga4, gc4, rfl, hf4, hb4⟩
         first | (have P4 := (P3.step hb4).pcs hf4) | (have P4 := ((P3.step (below_alloc1 _ _)).step hb4).pcs hf4)
         first | (have G4 := G3.step hb4) | (have G4 := (G3.allocF #[.slice none 0 0, .slice none 0 0, .int .i64 0] 30).step hb4)
         have s4 := hb4.size
         try simp only [World.size_alloc, World.size_drew] at s4)
      | (go_at_call 14; first | (refine (toPosition_c p pa sa pc sc _ (h.below ((F1.below).trans (Below.mono G2.below (by have := F1.below.size; omega))) (Nat.le_refl _)) l1 l2).mono ?_) | (refine (toPosition_c p pa sa pc sc _ (h.below ((F1.below).trans (Below.mono (G2.below.alloc G2.below.size _) (by have := F1.below.size; omega))) (Nat.le_refl _)) l1 l2).mono ?_)
         rintro e w3 ⟨qa3, qc3, ta3, tc3, rfl, ho3, hb3⟩
         first | (have G3 := G2.step hb3) | (have G3 := (G2.allocF #[.slice none 0 0, .slice none 0 0, .int .i64 0] 30).step hb3)
         have P3 := G3.pos ho3
         have s3 := hb3.size
         try simp only [World.size_alloc, World.size_drew] at s3)
      | (go_at_call 13; refine (toRules_c r _).mono ?_; rintro e w2 ⟨rfl, hb2⟩
         first | (have G2 := (Fr.start w1).drew.step hb2) | (have G2 := ((Fr.start w1).allocF #[.slice none 0 0, .slice none 0 0, .int .i64 0] 30).drew.step hb2)
         have s2 := hb2.size
         try simp only [World.size_alloc, World.size_drew] at s2))
    all_goals (go_wp2_with fail)
    all_goals go_meet
    all_goals
      try simp only [World.size_alloc, World.size_drew] at hoJ
      have FF := (F1.step GJ.below).pos hoJ
      first
      | (refine ⟨_, BJ, _, _, rfl, rfl, ?_, ?_, ?_, FF.alloc (y.cells BJ.pa BJ.pc BJ.sa BJ.sc) 30⟩ <;> (first | omega | (left; omega)))
      | (refine ⟨_, BJ, _, _, rfl, rfl, ?_, ?_, ?_, FF.stored3 ?_ ?_ x0 x1 x2⟩ <;> (first | omega | (right; omega) | (simp; omega)))
  case rest =>
  obtain ⟨nb0, A0, lo0, hi0, rfl, rfl, n01, n02, n03, F5⟩ := hcut
  clear c0 c1 c2 c3 c4 c5 c6 c7 c8 d0 d1 d2 zA zB F1
  obtain ⟨d0, d1, d2⟩ := P.boxc (F5.at 2 rfl)
  have zB : w.heap.size + 1 < wc.heap.size := F5.le 2 rfl
  go_upto_region 9 with fail
  go_cut [10] from 39 to 40 (fun s10 wx => ∃ (nbx : Nat) (qx : Option Addr) (qxc : Nat) (tx : Option Addr) (txc lox hix : Nat), s10 = .pointer (some ⟨nbx, 0, none⟩) ∧ nb0 + 1 ≤ lox ∧ hi0 ≤ lox ∧ w.heap.size + 1 + 1 ≤ lox ∧ hix ≤ nbx ∧ lox ≤ hix ∧ Fr w wx [⟨nbx, nbx + 1, BoxP nbx (p.cells qx qxc tx txc).toList⟩, ⟨lox, hix, PosP lox hix p qx qxc tx txc⟩, ⟨nb0, nb0 + 1, BoxP nb0 (y.cells A0.pa A0.pc A0.sa A0.sc).toList⟩, ⟨lo0, hi0, PosP lo0 hi0 y A0.pa A0.pc A0.sa A0.sc⟩, ⟨w.heap.size + 1, w.heap.size + 1 + 1, BoxP (w.heap.size + 1) (p.cells pa pc sa sc).toList⟩, ⟨w.heap.size, w.heap.size + 1, BoxP w.heap.size r.cells.toList⟩])
  case first =>
    have z1 : nb0 + 1 ≤ wc.heap.size := F5.le 0 rfl
    have z2 : hi0 ≤ wc.heap.size := F5.le 1 rfl
    go_wp2_with fail
    refine (toPosition_c p pa sa pc sc _ (h.below F5.below (Nat.le_refl _)) l1 l2).mono ?_
    rintro e w6 ⟨qa6, qc6, ta6, tc6, rfl, ho6, hb6⟩
    have F6 := ((F5.step hb6).pos ho6).alloc (p.cells qa6 qc6 ta6 tc6) 30
    have z6 := hb6.size
    clear ho6 hb6 F5
    go_wp2_with fail
    go_meet
    exact ⟨_, qa6, qc6, ta6, tc6, _, _, rfl, z1, z2, zB, Nat.le_refl _, z6, F6⟩
  case rest =>
  obtain ⟨nbx, qx, qxc, tx, txc, lox, hix, rfl, x01, x02, x03, x04, x05, F6⟩ := hcut
  clear d0 d1 d2 zB F5
  have x11 : nbx + 1 ≤ wc.heap.size := F6.le 0 rfl
  have x12 : hix ≤ wc.heap.size := F6.le 1 rfl
  have x13 : nb0 + 1 ≤ wc.heap.size := F6.le 2 rfl
  have x14 : hi0 ≤ wc.heap.size := F6.le 3 rfl
  have x15 : w.heap.size + 1 + 1 ≤ wc.heap.size := F6.le 4 rfl
  go_wp2_with fail
  refine (toFactS_c fs fa fc _ (hf.below F6.below (Nat.le_refl _)) l3).mono ?_
  rintro e wF ⟨xa, xc, rfl, hoF, hbF⟩
  have F6 := Fr.rot ((F6.step hbF).pcs hoF)
  have x16 : wc.heap.size ≤ wF.heap.size := hbF.size
  obtain ⟨loF, hloF⟩ : ∃ n, n = wc.heap.size := ⟨_, rfl⟩
  obtain ⟨hiF, hhiF⟩ : ∃ n, n = wF.heap.size := ⟨_, rfl⟩
  rw [← hloF, ← hhiF] at x16
  rw [← hloF, ← hhiF] at F6
  rw [← hloF] at x11 x12 x13 x14 x15
  have y5 : hiF ≤ wF.heap.size := by omega
  clear hoF hbF hloF hhiF
  obtain ⟨c0, c1, c2, c3, c4, c5, c6, c7, c8⟩ := R.boxc (F6.at 5 rfl)
  obtain ⟨d0, d1, d2⟩ := P.boxc (F6.at 0 rfl)
  have zA : w.heap.size < wF.heap.size := F6.le 5 rfl
  have zB : nbx < wF.heap.size := F6.le 0 rfl
  have y1 : hix ≤ wF.heap.size := F6.le 1 rfl
  have y2 : nb0 + 1 ≤ wF.heap.size := F6.le 2 rfl
  have y3 : hi0 ≤ wF.heap.size := F6.le 3 rfl
  have y4 : w.heap.size + 1 + 1 ≤ wF.heap.size := F6.le 4 rfl
  go_upto_region 11 with fail
  go_cut [12, 13] from 43 to 50 (fun s12 s13 wx => ∃ (nb1 : Nat) (A1 : A2) (lo1 hi1 : Nat), s12 = .pointer (some ⟨nb1, 0, none⟩) ∧ s13 = .int .i64 yc ∧ nbx + 1 ≤ lo1 ∧ nb0 + 1 ≤ lo1 ∧ hi0 ≤ lo1 ∧ w.heap.size + 1 + 1 ≤ lo1 ∧ hix ≤ lo1 ∧ hix ≤ nb1 ∧ (hi1 ≤ nb1 ∨ nb1 + 1 ≤ lo1) ∧ hiF ≤ lo1 ∧ hiF ≤ nb1 ∧ Fr w wx [⟨nb1, nb1 + 1, BoxP nb1 (y.cells A1.pa A1.pc A1.sa A1.sc).toList⟩, ⟨lo1, hi1, PosP lo1 hi1 y A1.pa A1.pc A1.sa A1.sc⟩, ⟨nbx, nbx + 1, BoxP nbx (p.cells qx qxc tx txc).toList⟩, ⟨lox, hix, PosP lox hix p qx qxc tx txc⟩, ⟨nb0, nb0 + 1, BoxP nb0 (y.cells A0.pa A0.pc A0.sa A0.sc).toList⟩, ⟨lo0, hi0, PosP lo0 hi0 y A0.pa A0.pc A0.sa A0.sc⟩, ⟨w.heap.size + 1, w.heap.size + 1 + 1, BoxP (w.heap.size + 1) (p.cells pa pc sa sc).toList⟩, ⟨w.heap.size, w.heap.size + 1, BoxP w.heap.size r.cells.toList⟩, ⟨loF, hiF, PcsP loF hiF (fcRL.pcs xa xc fs)⟩])
  case first =>
    go_region_held3 (fun w' => ∀ b o, b < wF.heap.size → w'.cell? ⟨b, o, none⟩ = wF.cell? ⟨b, o, none⟩)
      ((intro b o hbo; refine Below.cell (B := wF.heap.size) ?_ (show (Addr.mk b o none).block < _ from hbo); first | (with_reducible exact G8.below) | (with_reducible exact G8.below.alloc G8.below.size _) | (with_reducible exact G7.below) | (with_reducible exact G7.below.alloc G7.below.size _) | (with_reducible exact (Fr.start wF).drew.below) | (with_reducible exact ((Fr.start wF).allocF _ _).drew.below) | (repeat (first | (with_reducible exact G8.below) | ((with_reducible refine Below.setCell ?_ ?_ _); rotate_left; (simp <;> omega))))))
      (first
      | (go_at_call 16; first | (refine (HI.out qx tx qxc txc _ xa xc _ ((F6.step G7.below).at 1 rfl).1 (fc_row ((F6.step G7.below).at 6 rfl)) l1 l2 l3).mono ?_) | (refine (HI.out qx tx qxc txc _ xa xc _ ((F6.step (G7.below.alloc G7.below.size _)).at 1 rfl).1 (fc_row ((F6.step (G7.below.alloc G7.below.size _)).at 6 rfl)) l1 l2 l3).mono ?_)
         rintro e w8 ⟨B8, rfl, ho8, hb8⟩
         first | (have G8 := G7.step hb8) | (have G8 := (G7.allocF #[.slice none 0 0, .slice none 0 0, .int .i64 0] 30).step hb8)
         have s8 := hb8.size
         try simp only [World.size_alloc, World.size_drew] at s8
         try (obtain ⟨bx, bf⟩ := G8.at 0 rfl; have x0 := bx 0 _ rfl; have x1 := bx 1 _ rfl; have x2 := bx 2 _ rfl; try simp only [World.size_alloc, World.size_drew] at x0 x1 x2 bf))
      | (go_at_call 13; refine (toRules_c r _).mono ?_; rintro e w7 ⟨rfl, hb7⟩
         first | (have G7 := (Fr.start wF).drew.step hb7) | (have G7 := ((Fr.start wF).allocF #[.slice none 0 0, .slice none 0 0, .int .i64 0] 30).drew.step hb7)
         have s7 := hb7.size
         try simp only [World.size_alloc, World.size_drew] at s7))
    all_goals (go_wp2_with fail)
    all_goals go_meet
    all_goals
      try simp only [World.size_alloc, World.size_drew] at ho8
      have FF := (F6.step G8.below).pos ho8
      first
      | (refine ⟨_, B8, _, _, rfl, rfl, ?_, ?_, ?_, ?_, ?_, ?_, ?_, ?_, ?_, FF.alloc (y.cells B8.pa B8.pc B8.sa B8.sc) 30⟩ <;> (first | omega | (left; omega)))
      | (refine ⟨_, B8, _, _, rfl, rfl, ?_, ?_, ?_, ?_, ?_, ?_, ?_, ?_, ?_, FF.stored3 ?_ ?_ x0 x1 x2⟩ <;> (first | omega | (right; omega) | (simp; omega)))
  case rest =>
  obtain ⟨nb1, A1, lo1, hi1, rfl, rfl, g01, g02, g03, g04, g05, g06, g07, g08, g09, F8⟩ := hcut
  clear c0 c1 c2 c3 c4 c5 c6 c7 c8 d0 d1 d2 zA zB y1 y2 y3 y4 y5 F6
  obtain ⟨e0, e1, e2⟩ := (⟨F8.at 0 rfl 0 _ rfl, F8.at 0 rfl 1 _ rfl, F8.at 0 rfl 2 _ rfl⟩ : _ ∧ _ ∧ _)
  obtain ⟨f0, f1, f2⟩ := (⟨F8.at 4 rfl 0 _ rfl, F8.at 4 rfl 1 _ rfl, F8.at 4 rfl 2 _ rfl⟩ : _ ∧ _ ∧ _)
  go_wp2_with fail
  refine (eqPosition_c y y A1.pa A1.sa A0.pa A0.sa A1.pc A1.sc A0.pc A0.sc _ (F8.at 1 rfl).1.row (F8.at 5 rfl).1.row my1 my2 my1 my2).mono ?_
  rintro e w9 ⟨rfl, hb9⟩
  have F9 := F8.step hb9
  clear e0 e1 e2 f0 f1 f2 hb9 F8
  obtain ⟨q0, q1, q2⟩ := P.boxc (F9.at 2 rfl)
  obtain ⟨d0, d1, d2⟩ := P.boxc (F9.at 6 rfl)
  have zA : w.heap.size + 1 < w9.heap.size := F9.le 6 rfl
  have zB : nbx < w9.heap.size := F9.le 2 rfl
  go_wp2_with fail
  go_region_held3 (fun w' => ∀ b o, b < w9.heap.size → w'.cell? ⟨b, o, none⟩ = w9.cell? ⟨b, o, none⟩) (first | exact hcB | exact hcA | (intro b o h; rfl))
    (first
      | (go_at_call 14; refine (toPosition_c p pa sa pc sc _ (h.below F9.drew.below (Nat.le_refl _)) l1 l2).mono ?_; rintro e w10 ⟨qa10, qc10, ta10, tc10, rfl, ho10, hb10⟩; have hcA : ∀ b o, b < w9.heap.size → w10.cell? ⟨b, o, none⟩ = w9.cell? ⟨b, o, none⟩ := fun b o h => (bcell hb10).1 b o h)
      | (go_at_call 17; refine (eqPosition_c p p qx tx qa10 ta10 qxc txc qc10 tc10 _ ((F9.drew.step hb10).at 3 rfl).1.row ho10.row hm1 hm2 hm1 hm2).mono ?_; rintro e w11 ⟨rfl, hb11⟩; have hcB : ∀ b o, b < w9.heap.size → w11.cell? ⟨b, o, none⟩ = w9.cell? ⟨b, o, none⟩ := fun b o h => ((bcell hb11).1 b o (Nat.lt_of_lt_of_le h hb10.size)).trans (hcA b o h)))
  have F11 := (F9.drew.step hb10).step hb11
  clear hcA hcB hb10 hb11 ho10 F9 q0 q1 q2 d0 d1 d2 zA zB
  go_wp2_with fail
  refine (toFactS_c fs fa fc _ (hf.below F11.below (Nat.le_refl _)) l3).mono ?_
  rintro e w30 ⟨ya, yb, rfl, ho30, hb30⟩
  have F30 := F11.step hb30
  clear hb30 F11
  go_wp2_with fail
  refine (eqFactS_c fs xa ya xc yb _ (fc_row (F30.at 8 rfl)) (fc_row ho30.mk') l3).mono ?_
  rintro e w31 ⟨rfl, hb31⟩
  have F11 := F30.step hb31
  clear hb31 F30 ho30
  obtain ⟨q0, q1, q2⟩ := P.boxc (F11.at 2 rfl)
  have hX := F11.at 3 rfl
  go_wp2_with fail
  refine (markPosition_c _ _ p qx tx qxc txc 1 _ hX.1 hX.2.1 hX.2.2 (by omega) (by omega)).mono ?_
  rintro e w12 ⟨rfl, hg12⟩
  have F12 := F11.chgAt 3 hg12 (by omega) (by simp [List.eraseIdx]; omega)
  clear hg12 hX F11 q0 q1 q2
  have hXF := F12.at 7 rfl
  go_wp2_with fail
  refine (markFactS_c loF hiF xa xc fs _ _ hXF l3 (by omega) (by omega)).mono ?_
  rintro e w32 ⟨rfl, _, hg32⟩
  have F12 := F12.chgAt 7 hg32 (by omega) (by simp [List.eraseIdx]; omega)
  clear hg32 hXF
  obtain ⟨e0, e1, e2⟩ := (⟨F12.at 0 rfl 0 _ rfl, F12.at 0 rfl 1 _ rfl, F12.at 0 rfl 2 _ rfl⟩ : _ ∧ _ ∧ _)
  obtain ⟨f0, f1, f2⟩ := (⟨F12.at 3 rfl 0 _ rfl, F12.at 3 rfl 1 _ rfl, F12.at 3 rfl 2 _ rfl⟩ : _ ∧ _ ∧ _)
  go_wp2_with fail
  refine (eqPosition_c y y A1.pa A1.sa A0.pa A0.sa A1.pc A1.sc A0.pc A0.sc _ (F12.at 1 rfl).1.row (F12.at 4 rfl).1.row my1 my2 my1 my2).mono ?_
  rintro e w13 ⟨rfl, hb13⟩
  have F13 := F12.step hb13
  clear e0 e1 e2 f0 f1 f2 hb13 F12
  obtain ⟨e0, e1, e2⟩ := (⟨F13.at 0 rfl 0 _ rfl, F13.at 0 rfl 1 _ rfl, F13.at 0 rfl 2 _ rfl⟩ : _ ∧ _ ∧ _)
  have hX := F13.at 1 rfl
  go_wp2_with fail
  refine (markPosition2_c _ _ y A1 1 _ hX.1 hX.2.1 hX.2.2 (by omega) (by omega)).mono ?_
  rintro e w14 ⟨rfl, hm14, hg14⟩
  have F14 := (F13.chgAt 1 hg14 (by omega) (by simp [List.eraseIdx]; omega)).markQ hm14
  clear e0 e1 e2 hX hm14 hg14 F13
  obtain ⟨e0, e1, e2⟩ := (⟨F14.at 1 rfl 0 _ rfl, F14.at 1 rfl 1 _ rfl, F14.at 1 rfl 2 _ rfl⟩ : _ ∧ _ ∧ _)
  go_wp2_with fail
  refine (heldPosition_c y A1 1 _ (own_row (F14.at 0 rfl).1.pits) (own_row (F14.at 0 rfl).1.stores) (by omega) (by omega)).mono ?_
  rintro e w16 ⟨rfl, hb16⟩
  have F16 := F14.step hb16
  obtain ⟨hi2, hhi2⟩ : ∃ n, n = w14.heap.size := ⟨_, rfl⟩
  rw [← hhi2] at F16
  clear e0 e1 e2 hb16 F14 hhi2
  obtain ⟨c0, c1, c2, c3, c4, c5, c6, c7, c8⟩ := R.boxc (F16.at 6 rfl)
  obtain ⟨d0, d1, d2⟩ := P.boxc (F16.at 5 rfl)
  have zA : w.heap.size < w16.heap.size := F16.le 6 rfl
  have zB : w.heap.size + 1 < w16.heap.size := F16.le 5 rfl
  have y0 : hi2 ≤ w16.heap.size := F16.le 0 rfl
  have y1 : nb1 + 1 ≤ w16.heap.size := F16.le 1 rfl
  have y2 : nbx + 1 ≤ w16.heap.size := F16.le 2 rfl
  have y3 : nb0 + 1 ≤ w16.heap.size := F16.le 3 rfl
  have y4 : hi0 ≤ w16.heap.size := F16.le 4 rfl
  go_upto_region 31 with fail
  go_cut [17, 18] from 100 to 109 (fun s17 s18 wx => ∃ (nb2 : Nat) (A2 : A2) (lo2 hi3 : Nat), s17 = .pointer (some ⟨nb2, 0, none⟩) ∧ s18 = .int .i64 yc ∧ Fr w wx [⟨nb2, nb2 + 1, BoxP nb2 (y.cells A2.pa A2.pc A2.sa A2.sc).toList⟩, ⟨lo2, hi3, PosP lo2 hi3 y A2.pa A2.pc A2.sa A2.sc⟩, ⟨lo1, hi2, MarkQ lo1 hi2 y.pits.length y.stores.length A1 1⟩, ⟨nb1, nb1 + 1, BoxP nb1 (y.cells A1.pa A1.pc A1.sa A1.sc).toList⟩, ⟨nbx, nbx + 1, BoxP nbx (p.cells qx qxc tx txc).toList⟩, ⟨nb0, nb0 + 1, BoxP nb0 (y.cells A0.pa A0.pc A0.sa A0.sc).toList⟩, ⟨lo0, hi0, PosP lo0 hi0 y A0.pa A0.pc A0.sa A0.sc⟩, ⟨w.heap.size + 1, w.heap.size + 1 + 1, BoxP (w.heap.size + 1) (p.cells pa pc sa sc).toList⟩, ⟨w.heap.size, w.heap.size + 1, BoxP w.heap.size r.cells.toList⟩])
  case first =>
    go_region_held3 (fun w' => ∀ b o, b < w16.heap.size → w'.cell? ⟨b, o, none⟩ = w16.cell? ⟨b, o, none⟩)
      ((intro b o hbo; refine Below.cell (B := w16.heap.size) ?_ (show (Addr.mk b o none).block < _ from hbo); first | (with_reducible exact GJ.below) | (with_reducible exact G19.below) | (with_reducible exact G19.below.alloc G19.below.size _) | (with_reducible exact GJ.below.alloc GJ.below.size _) | (with_reducible exact G18.below) | (with_reducible exact G18.below.alloc G18.below.size _) | (with_reducible exact G17.below) | (with_reducible exact G17.below.alloc G17.below.size _) | (with_reducible exact (Fr.start w16).drew.below) | (with_reducible exact ((Fr.start w16).allocF _ _).drew.below) | (repeat (first | (with_reducible exact GJ.below) | ((with_reducible refine Below.setCell ?_ ?_ _); rotate_left; (simp <;> omega))))))
      (first
      | (go_at_call 16; first | (refine (HI.out qa18 ta18 qc18 tc18 _ ga19 gc19 _ (P19.at 1 rfl).1 (fc_row (P19.at 0 rfl)) l1 l2 l3).mono ?_) | (refine (HI.out qa18 ta18 qc18 tc18 _ ga19 gc19 _ ((P19.step (below_alloc1 _ _)).at 1 rfl).1 (fc_row ((P19.step (below_alloc1 _ _)).at 0 rfl)) l1 l2 l3).mono ?_)
         rintro e wJ ⟨BJ, rfl, hoJ, hbJ⟩
         first | (have GJ := G19.step hbJ) | (have GJ := (G19.allocF #[.slice none 0 0, .slice none 0 0, .int .i64 0] 30).step hbJ)
         have sJ := hbJ.size
         try simp only [World.size_alloc, World.size_drew] at sJ
         try (obtain ⟨bx, bf⟩ := GJ.at 0 rfl; have x0 := bx 0 _ rfl; have x1 := bx 1 _ rfl; have x2 := bx 2 _ rfl; try simp only [World.size_alloc, World.size_drew] at x0 x1 x2 bf))
      | (go_at_call 15; first | (refine (toFactS_c fs fa fc _ (hf.below ((F16.below).trans (Below.mono G18.below (by have := F16.below.size; omega))) (Nat.le_refl _)) l3).mono ?_) | (refine (toFactS_c fs fa fc _ (hf.below ((F16.below).trans (Below.mono (G18.below.alloc G18.below.size _) (by have := F16.below.size; omega))) (Nat.le_refl _)) l3).mono ?_)
         rintro e w19 ⟨ga19, gc19, rfl, hf19, hb19⟩
         first | (have P19 := (P18.step hb19).pcs hf19) | (have P19 := ((P18.step (below_alloc1 _ _)).step hb19).pcs hf19)
         first | (have G19 := G18.step hb19) | (have G19 := (G18.allocF #[.slice none 0 0, .slice none 0 0, .int .i64 0] 30).step hb19)
         have s19 := hb19.size
         try simp only [World.size_alloc, World.size_drew] at s19)
      | (go_at_call 14; first | (refine (toPosition_c p pa sa pc sc _ (h.below ((F16.below).trans (Below.mono G17.below (by have := F16.below.size; omega))) (Nat.le_refl _)) l1 l2).mono ?_) | (refine (toPosition_c p pa sa pc sc _ (h.below ((F16.below).trans (Below.mono (G17.below.alloc G17.below.size _) (by have := F16.below.size; omega))) (Nat.le_refl _)) l1 l2).mono ?_)
         rintro e w18 ⟨qa18, qc18, ta18, tc18, rfl, ho18, hb18⟩
         first | (have G18 := G17.step hb18) | (have G18 := (G17.allocF #[.slice none 0 0, .slice none 0 0, .int .i64 0] 30).step hb18)
         have P18 := G18.pos ho18
         have s18 := hb18.size
         try simp only [World.size_alloc, World.size_drew] at s18)
      | (go_at_call 13; refine (toRules_c r _).mono ?_; rintro e w17 ⟨rfl, hb17⟩
         first | (have G17 := (Fr.start w16).drew.step hb17) | (have G17 := ((Fr.start w16).allocF #[.slice none 0 0, .slice none 0 0, .int .i64 0] 30).drew.step hb17)
         have s17 := hb17.size
         try simp only [World.size_alloc, World.size_drew] at s17))
    all_goals (go_wp2_with fail)
    all_goals go_meet
    all_goals
      try simp only [World.size_alloc, World.size_drew] at hoJ
      have FF := (F16.step GJ.below).pos hoJ
      first
      | (refine ⟨_, BJ, _, _, rfl, rfl, FF.alloc (y.cells BJ.pa BJ.pc BJ.sa BJ.sc) 30⟩)
      | (refine ⟨_, BJ, _, _, rfl, rfl, FF.stored3 ?_ ?_ x0 x1 x2⟩ <;> (first | omega | (simp; omega)))
  case rest =>
  obtain ⟨nb2, A2, lo2, hi3, rfl, rfl, F20⟩ := hcut
  clear c0 c1 c2 c3 c4 c5 c6 c7 c8 d0 d1 d2 zA zB y0 y1 y2 y3 y4 F16
  obtain ⟨e0, e1, e2⟩ := (⟨F20.at 0 rfl 0 _ rfl, F20.at 0 rfl 1 _ rfl, F20.at 0 rfl 2 _ rfl⟩ : _ ∧ _ ∧ _)
  obtain ⟨f0, f1, f2⟩ := (⟨F20.at 5 rfl 0 _ rfl, F20.at 5 rfl 1 _ rfl, F20.at 5 rfl 2 _ rfl⟩ : _ ∧ _ ∧ _)
  go_wp2_with fail
  refine (eqPosition_c y y A2.pa A2.sa A0.pa A0.sa A2.pc A2.sc A0.pc A0.sc _ (F20.at 1 rfl).1.row (F20.at 6 rfl).1.row my1 my2 my1 my2).mono ?_
  rintro e w21 ⟨rfl, hb21⟩
  have F21 := F20.step hb21
  clear e0 e1 e2 f0 f1 f2 hb21 F20
  obtain ⟨e0, e1, e2⟩ := (⟨F21.at 3 rfl 0 _ rfl, F21.at 3 rfl 1 _ rfl, F21.at 3 rfl 2 _ rfl⟩ : _ ∧ _ ∧ _)
  go_wp2_with fail
  refine (heldPosition_c y A1 1 _ (own_row (F21.at 2 rfl).1.pits) (own_row (F21.at 2 rfl).1.stores) (by omega) (by omega)).mono ?_
  rintro e w22 ⟨rfl, hb22⟩
  have F22 := F21.step hb22
  clear e0 e1 e2 hb22 F21
  go_wp2
  go_ret
  exact ⟨rfl, F22.below⟩

theorem walked (r : R) (p : P) (pa sa : Option Addr) (pc sc : Nat) (fs : List Fc) (fa : Option Addr) (fc : Nat) (w : World) (h : PRow w p pa sa) (hf : Row w fa (flat fcRL.f fs)) (hfm : fs.length ≤ maxLen) (hm1 : p.pits.length ≤ maxLen) (hm2 : p.stores.length ≤ maxLen) :
    Calls Try.prog 3 #[r.val, p.val pa pc sa sc, .slice fa fs.length fc] w fun e w' => e = .returned (.bool true) ∧ Below w.heap.size w w' :=
  walk r p pa sa pc sc fs fa fc w h hf hfm hm1 hm2 (applyP r p fs) (applyP_len r p fs).1 (applyP_len r p fs).2 (fun pa sa pc sc b ga gc w h hg l1 l2 l3 => sApplyFacts_c r p pa sa pc sc ga gc fs w h.row (by omega) (by omega) hg (by unfold maxLen; omega)) (fun pa sa pc sc b ga gc w h hg l1 l2 l3 => iApplyFacts_c r p pa sa pc sc ga gc fs w h.row (by omega) (by omega) hg (by unfold maxLen; omega))

set_option maxRecDepth 100000 in
theorem contract (H : Type) (enc : TypeId × Value → H) (W : World) (base : Nat) (args : Array Value) (ds gs : List (DataW H)) (before : List MemPlace)
    (hval : ∀ (j : Nat) t v, Try.f3.params[j]? = some t → args[j]? = some v → Value.okWide Try.prog W .any base t v)
    (hW : DataW.Whole enc Try.prog Try.f3.params.toList Rows.fnExactApplyFactsSpec.vars false W args.toList ds gs before) :
    Calls Try.prog 3 args W fun e W' => ∃ v, e = .returned v ∧ Rows.fnExactApplyFactsSpec.post enc Try.prog Try.f3 false true false false W args v W' := by
  have hW' := hW
  obtain ⟨p, q, hA0, hV, rfl, hfz, hnd⟩ := hW
  have hA : DataW.TrodAll enc Try.prog W 0 (fun _ => true) true Try.f3.params.toList args.toList ds p := hA0
  rw [Try.params3] at hA hval
  obtain ⟨v0, vs0, d0, ds0, p0, q0, hargs, rfl, rfl, h0, r0⟩ := trodAll_cons hA
  obtain ⟨v1, vs1, d1, ds1, p1, q1, rfl, rfl, rfl, h1, r1⟩ := trodAll_cons r0
  obtain ⟨v2, vs2, d2, ds2, p2, q2, rfl, rfl, rfl, h2, r2⟩ := trodAll_cons r1
  obtain ⟨rfl, rfl, rfl⟩ := trodAll_nil r2
  obtain rfl : args = #[v0, v1, v2] := by cases args; simp_all
  obtain ⟨a0, rfl, w0⟩ := arg_rules (hval 0 23 v0 rfl rfl) h0
  obtain ⟨p1p, pa1, pc1, sa1, sc1, rfl, w1⟩ := arg_pos (hval 1 26 v1 rfl rfl) h1
  obtain ⟨fa2, fc2, fl2, rfl, w2⟩ := arg_fcs (hval 2 27 v2 rfl rfl) h2
  refine (walked a0 p1p pa1 sa1 pc1 sc1 fl2 fa2 fc2 W w1.1 w2.1 w2.2.1 w1.2.1 w1.2.2.1).mono fun e W' ⟨he, hb⟩ => ?_
  subst he
  exact ⟨_, rfl, law_post hW' hb rfl rfl (by kernel_rfl) rfl⟩

set_option maxRecDepth 100000 in
theorem lifted (os : Os) (started : os.Started) (H : Type) (enc : TypeId × Value → H) :
    ReturnsInHanded {} Try.checked os 3 .any (Rows.fnExactApplyFactsSpec.pre6 enc Try.prog Try.f3 Rows.fnExactApplyFactsRow.domain false) (Rows.fnExactApplyFactsSpec.post enc Try.prog Try.f3 false true false false) := by
  refine returnsInHanded_of_change (C := Try.checked) (s := Rows.fnExactApplyFactsSpec) own started (by kernel_rfl) Try.func3
    (ChangeSpec.witness6 (enc := enc) (C := Try.checked) (s := Rows.fnExactApplyFactsSpec) false ⟨#[], #[.agg #[.int .i64 0, .int .i64 0, .bool false, .bool false, .bool false, .bool false, .bool false, .int .i64 0, .int .i64 0], .agg #[.slice none 0 0, .slice none 0 0, .int .i64 0], .slice none 0 0], []⟩ 8 (by kernel_rfl) (by kernel_rfl) (by kernel_rfl) (by kernel_rfl)) ?_
  intro W base args ds gs before hval hW _ _
  exact contract H enc W base args ds gs before hval hW

theorem proved : Rows.FnExactApplyFactsSaid :=
  OpenClaim.holds_of_wide 3 Try.f3 rfl rfl rfl rfl rfl rfl rfl ⟨rfl, rfl, rfl, rfl, rfl⟩ rfl rfl rfl rfl rfl (by kernel_rfl) Try.func3 (by kernel_rfl)
    (of_decide_eq_true (by kernel_rfl)) (by unfold Func.isWrapper; first | (rw [if_pos (by decide +kernel)]; kernel_rfl) | (rw [if_neg (by decide +kernel)]; exact ⟨rfl, rfl⟩))
    (fun os started H enc _ => lifted os started H enc)
end Go.Proofs.Ytbjgigdkbjabaaa.lApplyFacts
