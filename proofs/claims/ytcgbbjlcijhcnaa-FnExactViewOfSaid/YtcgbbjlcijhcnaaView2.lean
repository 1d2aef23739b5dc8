/- View2: ViewOf: both functions. Each contract holds for every argument, under the premises that it states. -/
import Derived.Test.YtcgbbjlcijhcnaaView
import Derived.Test.YtcgbbjlcijhcnaaSrP
namespace Go.Proofs.Ytcgbbjlcijhcnaa
set_option linter.unusedSimpArgs false
set_option linter.unusedVariables false
set_option linter.unnecessarySimpa false
open Go.RowKit Go.ChangeShapes Go.WideShapes Go.ChangeAt Go.Joins

def viewP (p : P) : P := if p.player = 1 then ⟨p.pits.drop (p.pits.length / 2) ++ p.pits.take (p.pits.length / 2), p.stores.reverse, 1 - p.player⟩ else p
theorem viewP_turn {r : R} {p : P} (h : p.ok r = true) (h1 : p.player = 1) : ∃ xs ys s0 s1, p = ⟨xs ++ ys, [s0, s1], p.player⟩ ∧ (xs.length : Int) = r.pits ∧ ys.length = xs.length ∧ 1 ≤ xs.length ∧ xs.length ≤ 1000 ∧ viewP p = ⟨ys ++ xs, [s1, s0], 1 - p.player⟩ := by
  obtain ⟨hb, _, t, hB, _⟩ := P.ok_parts h
  have b1 := hb.lo; have b2 := hb.hi; have b3 := hB.lp; have b4 := hB.ls
  obtain ⟨zs, ss, pl⟩ := p
  simp only at b3 b4 h1
  obtain ⟨s0, s1, rfl⟩ : ∃ a b, ss = [a, b] := by
    match ss, b4 with
    | [a, b], _ => exact ⟨a, b, rfl⟩
  have hd : zs.length / 2 = r.pits.toNat := by omega
  refine ⟨zs.take r.pits.toNat, zs.drop r.pits.toNat, s0, s1, by simp, ?_, ?_, ?_, ?_, ?_⟩
  · simp; omega
  · simp; omega
  · simp; omega
  · simp; omega
  · simp [viewP, h1, hd]
theorem viewP_own {p : P} (h : ¬ p.player = 1) : viewP p = p := if_neg h
theorem viewP_len {r : R} {p : P} (h : p.ok r = true) : (viewP p).pits.length ≤ 16 ∧ (viewP p).stores.length ≤ 16 := by
  have hl := P.ok_lens h
  unfold viewP
  split
  · simp; omega
  · exact hl
theorem P.ok_player {p : P} {r : R} (h : p.ok r = true) : p.player = 0 ∨ p.player = 1 := by
  obtain ⟨_, ⟨pn, h1, h2⟩, _⟩ := P.ok_parts h
  omega

set_option maxRecDepth 100000 in
set_option maxHeartbeats 8000000 in
theorem view_c (r : R) (p : P) (hok : p.ok r = true) (pa sa : Option Addr) (pc sc : Nat) (w : World) (h : PRow w p pa sa) (hc : p.pits.length ≤ pc) (hcm : pc ≤ maxLen) :
    Calls Try.prog 58 #[r.val, p.val pa pc sa sc] w (PosRes w (viewP p)) := by
  have F0 := (((Fr.start w).alloc r.cells 31).alloc (p.cells pa pc sa sc) 28).allocF #[.slice none 0 0, .slice none 0 0, .int .i64 0] 28
  simp only [World.size_alloc] at F0
  have HP := Lib.hid (h.below F0.below (Nat.le_refl _))
  have hl := P.ok_lens hok
  rcases P.ok_player hok with hp | hp
  · have hb : (p.player == 0) = true := by simp [hp]
    have hy : viewP p = p := viewP_own (by omega)
    have HM0 : ∀ W, PRow W p pa sa → Calls Try.prog 93 #[p.val pa pc sa sc] W (PosRes W (viewP p)) := fun W hW => by rw [hy]; exact copied_c p pa sa pc sc W hW (by omega) (by omega)
    obtain ⟨y, hyy⟩ : ∃ y, y = viewP p := ⟨_, rfl⟩
    rw [← hyy] at HM0 ⊢
    have HM := Lib.hid (HM0 _ HP.out)
    clear HM0
    clear hp hy hyy hl HP h hok hc hcm
    go_enter Try.func58, Try.ntmps58
    go_wp2_with fail
    refine HM.out.mono ?_
    rintro e w1 ⟨ua, uc, va, vc, rfl, ho, hb1⟩
    have F1 := F0.step hb1
    obtain ⟨bx, bf⟩ := F1.at 0 rfl
    obtain ⟨x0, x1, x2⟩ := (⟨bx 0 _ rfl, bx 1 _ rfl, bx 2 _ rfl⟩ : _ ∧ _ ∧ _)
    have zC : w.heap.size + 1 + 1 < w1.heap.size := F1.le 0 rfl
    have B1 := F1.below
    simp only [World.size_alloc] at ho
    have HO := Lib.hid ho
    have hzb : w.heap.size + 1 + 1 + 1 ≤ w1.heap.size := by omega
    have hzw : w.heap.size ≤ w.heap.size + 1 + 1 := by omega
    clear bx F0 F1 HM hb1 ho
    go_wp2
    refine bodyPost_ret (v := y.val ua uc va vc) (by simp [results, Try.results58, go_sem, x0, x1, x2, bf, zC, P.val, P.cells]) rfl ?_
    refine ⟨ua, uc, va, vc, rfl, ⟨?_, ?_, HO.out.apart⟩, ?_⟩
    · have k0 := HO.out.pits
      refine ownsRow_le (base := w.heap.size + 1 + 1 + 1) ?_ (by omega)
      repeat (first | (with_reducible exact k0) | ((with_reducible refine ownsRow_setCell_below ?_ ?_ _); rotate_left; (simp <;> omega)) | (with_reducible refine World.ownsRow.drew ?_))
    · have k0 := HO.out.stores
      refine ownsRow_le (base := w.heap.size + 1 + 1 + 1) ?_ (by omega)
      repeat (first | (with_reducible exact k0) | ((with_reducible refine ownsRow_setCell_below ?_ ?_ _); rotate_left; (simp <;> omega)) | (with_reducible refine World.ownsRow.drew ?_))
    · repeat (first | (with_reducible exact B1) | ((with_reducible refine Below.setCell ?_ ?_ _); rotate_left; (simp <;> omega)) | (with_reducible refine Below.drew ?_))
  · have hb : (p.player == 0) = false := by simp [hp]
    obtain ⟨xs, ys, s0, s1, h1, h2, h3, h4, h5, h6⟩ := viewP_turn hok hp
    have HM0 : ∀ W, PRow W p pa sa → Calls Try.prog 94 #[r.val, p.val pa pc sa sc] W (PosRes W (viewP p)) := fun W hpp => by
      rw [h6]
      have hpl : 0 ≤ p.player ∧ p.player ≤ 1 := by omega
      clear h6 hp hb HP F0
      generalize p.player = pl at *
      subst h1
      exact turned_c r (xs ++ ys) xs ys s0 s1 pl rfl h2 h3 h4 h5 hpl pa sa pc sc _ hpp.pits hpp.stores hc hcm
    obtain ⟨y, hyy⟩ : ∃ y, y = viewP p := ⟨_, rfl⟩
    rw [← hyy] at HM0 ⊢
    have HM := Lib.hid (HM0 _ HP.out)
    clear HM0
    clear hp hyy hl HP h hok hc hcm h1 h2 h3 h4 h5 h6
    go_enter Try.func58, Try.ntmps58
    go_wp2_with fail
    refine HM.out.mono ?_
    rintro e w1 ⟨ua, uc, va, vc, rfl, ho, hb1⟩
    have F1 := F0.step hb1
    obtain ⟨bx, bf⟩ := F1.at 0 rfl
    obtain ⟨x0, x1, x2⟩ := (⟨bx 0 _ rfl, bx 1 _ rfl, bx 2 _ rfl⟩ : _ ∧ _ ∧ _)
    have zC : w.heap.size + 1 + 1 < w1.heap.size := F1.le 0 rfl
    have B1 := F1.below
    simp only [World.size_alloc] at ho
    have HO := Lib.hid ho
    have hzb : w.heap.size + 1 + 1 + 1 ≤ w1.heap.size := by omega
    have hzw : w.heap.size ≤ w.heap.size + 1 + 1 := by omega
    clear bx F0 F1 HM hb1 ho
    go_wp2
    refine bodyPost_ret (v := y.val ua uc va vc) (by simp [results, Try.results58, go_sem, x0, x1, x2, bf, zC, P.val, P.cells]) rfl ?_
    refine ⟨ua, uc, va, vc, rfl, ⟨?_, ?_, HO.out.apart⟩, ?_⟩
    · have k0 := HO.out.pits
      refine ownsRow_le (base := w.heap.size + 1 + 1 + 1) ?_ (by omega)
      repeat (first | (with_reducible exact k0) | ((with_reducible refine ownsRow_setCell_below ?_ ?_ _); rotate_left; (simp <;> omega)) | (with_reducible refine World.ownsRow.drew ?_))
    · have k0 := HO.out.stores
      refine ownsRow_le (base := w.heap.size + 1 + 1 + 1) ?_ (by omega)
      repeat (first | (with_reducible exact k0) | ((with_reducible refine ownsRow_setCell_below ?_ ?_ _); rotate_left; (simp <;> omega)) | (with_reducible refine World.ownsRow.drew ?_))
    · repeat (first | (with_reducible exact B1) | ((with_reducible refine Below.setCell ?_ ?_ _); rotate_left; (simp <;> omega)) | (with_reducible refine Below.drew ?_))

set_option maxRecDepth 100000 in
set_option maxHeartbeats 8000000 in
theorem l04View_c (rb ro qb qo : Nat) (r : R) (p : P) (hok : p.ok r = true) (pa sa : Option Addr) (pc sc : Nat) (w : World) (hat : R.At w rb ro r) (pat : P.At w qb qo p pa pc sa sc) (h : PRow w p pa sa) (hc : p.pits.length ≤ pc) (hcm : pc ≤ maxLen) :
    Calls Try.prog 56 #[.pointer (some ⟨rb, ro, none⟩), .pointer (some ⟨qb, qo, none⟩)] w (PosRes w (viewP p)) := by
  have hrb : rb < w.heap.size := World.block_lt_of_cell? w _ hat.c0
  have hqb : qb < w.heap.size := World.block_lt_of_cell? w _ pat.c0
  have B0 := below_alloc1 w (.cells #[.slice none 0 0, .slice none 0 0, .int .i64 0] 28)
  have F0 := (Fr.start w).allocF #[.slice none 0 0, .slice none 0 0, .int .i64 0] 28
  have HA := Lib.hid (hat.below B0 hrb)
  have HPA : Hid (P.At _ qb qo p pa pc sa sc) := ⟨((bcell B0).1 _ _ hqb).trans pat.c0, ((bcell B0).1 _ _ hqb).trans pat.c1, ((bcell B0).1 _ _ hqb).trans pat.c2⟩
  have hc2 := ((bcell B0).1 _ _ hqb).trans pat.c2
  clear pat hat
  have HP := Lib.hid (h.below F0.below (Nat.le_refl _))
  have hl := P.ok_lens hok
  rcases P.ok_player hok with hp | hp
  · have hb : (p.player == 1) = false := by simp [hp]
    have hy : viewP p = p := viewP_own (by omega)
    have HM0 : ∀ W, P.At W qb qo p pa pc sa sc → PRow W p pa sa → Calls Try.prog 78 #[.pointer (some ⟨qb, qo, none⟩)] W (PosRes W (viewP p)) := fun W hA hW => by rw [hy]; exact l04Own_c qb qo p pa sa pc sc W hA hW (by omega) (by omega)
    obtain ⟨y, hyy⟩ : ∃ y, y = viewP p := ⟨_, rfl⟩
    rw [← hyy] at HM0 ⊢
    have HM := Lib.hid (HM0 _ HPA.out HP.out)
    clear HM0
    clear hp hy hyy hl HP h hok hc hcm HA HPA B0
    go_enter Try.func56, Try.ntmps56
    go_wp2_with fail
    refine HM.out.mono ?_
    rintro e w1 ⟨ua, uc, va, vc, rfl, ho, hb1⟩
    have F1 := F0.step hb1
    obtain ⟨bx, bf⟩ := F1.at 0 rfl
    obtain ⟨x0, x1, x2⟩ := (⟨bx 0 _ rfl, bx 1 _ rfl, bx 2 _ rfl⟩ : _ ∧ _ ∧ _)
    have zC : w.heap.size < w1.heap.size := F1.le 0 rfl
    have B1 := F1.below
    simp only [World.size_alloc] at ho
    have HO := Lib.hid ho
    have hzb : w.heap.size + 1 ≤ w1.heap.size := by omega
    have hzw : w.heap.size ≤ w.heap.size := by omega
    clear bx F0 F1 HM hb1 ho
    go_wp2
    refine bodyPost_ret (v := y.val ua uc va vc) (by simp [results, Try.results56, go_sem, x0, x1, x2, bf, zC, P.val, P.cells]) rfl ?_
    refine ⟨ua, uc, va, vc, rfl, ⟨?_, ?_, HO.out.apart⟩, ?_⟩
    · have k0 := HO.out.pits
      refine ownsRow_le (base := w.heap.size + 1) ?_ (by omega)
      repeat (first | (with_reducible exact k0) | ((with_reducible refine ownsRow_setCell_below ?_ ?_ _); rotate_left; (simp <;> omega)) | (with_reducible refine World.ownsRow.drew ?_))
    · have k0 := HO.out.stores
      refine ownsRow_le (base := w.heap.size + 1) ?_ (by omega)
      repeat (first | (with_reducible exact k0) | ((with_reducible refine ownsRow_setCell_below ?_ ?_ _); rotate_left; (simp <;> omega)) | (with_reducible refine World.ownsRow.drew ?_))
    · repeat (first | (with_reducible exact B1) | ((with_reducible refine Below.setCell ?_ ?_ _); rotate_left; (simp <;> omega)) | (with_reducible refine Below.drew ?_))
  · have hb : (p.player == 1) = true := by simp [hp]
    obtain ⟨xs, ys, s0, s1, h1, h2, h3, h4, h5, h6⟩ := viewP_turn hok hp
    have HM0 : ∀ W, R.At W rb ro r → P.At W qb qo p pa pc sa sc → PRow W p pa sa → Calls Try.prog 86 #[.pointer (some ⟨rb, ro, none⟩), .pointer (some ⟨qb, qo, none⟩)] W (PosRes W (viewP p)) := fun W hra hpa hpp => by
      rw [h6]
      have hpl : 0 ≤ p.player ∧ p.player ≤ 1 := by omega
      clear h6 hp hb HP F0 HPA HA hc2
      generalize p.player = pl at *
      subst h1
      exact l04Turn_c rb ro qb qo r (xs ++ ys) xs ys s0 s1 pl rfl h2 h3 h4 h5 hpl pa sa pc sc _ hra hpa hpp.pits hpp.stores hc hcm
    obtain ⟨y, hyy⟩ : ∃ y, y = viewP p := ⟨_, rfl⟩
    rw [← hyy] at HM0 ⊢
    have HM := Lib.hid (HM0 _ HA.out HPA.out HP.out)
    clear HM0
    clear hp hyy hl HP h hok hc hcm HA HPA B0 h1 h2 h3 h4 h5 h6
    go_enter Try.func56, Try.ntmps56
    go_wp2_with fail
    refine HM.out.mono ?_
    rintro e w1 ⟨ua, uc, va, vc, rfl, ho, hb1⟩
    have F1 := F0.step hb1
    obtain ⟨bx, bf⟩ := F1.at 0 rfl
    obtain ⟨x0, x1, x2⟩ := (⟨bx 0 _ rfl, bx 1 _ rfl, bx 2 _ rfl⟩ : _ ∧ _ ∧ _)
    have zC : w.heap.size < w1.heap.size := F1.le 0 rfl
    have B1 := F1.below
    simp only [World.size_alloc] at ho
    have HO := Lib.hid ho
    have hzb : w.heap.size + 1 ≤ w1.heap.size := by omega
    have hzw : w.heap.size ≤ w.heap.size := by omega
    clear bx F0 F1 HM hb1 ho
    go_wp2
    refine bodyPost_ret (v := y.val ua uc va vc) (by simp [results, Try.results56, go_sem, x0, x1, x2, bf, zC, P.val, P.cells]) rfl ?_
    refine ⟨ua, uc, va, vc, rfl, ⟨?_, ?_, HO.out.apart⟩, ?_⟩
    · have k0 := HO.out.pits
      refine ownsRow_le (base := w.heap.size + 1) ?_ (by omega)
      repeat (first | (with_reducible exact k0) | ((with_reducible refine ownsRow_setCell_below ?_ ?_ _); rotate_left; (simp <;> omega)) | (with_reducible refine World.ownsRow.drew ?_))
    · have k0 := HO.out.stores
      refine ownsRow_le (base := w.heap.size + 1) ?_ (by omega)
      repeat (first | (with_reducible exact k0) | ((with_reducible refine ownsRow_setCell_below ?_ ?_ _); rotate_left; (simp <;> omega)) | (with_reducible refine World.ownsRow.drew ?_))
    · repeat (first | (with_reducible exact B1) | ((with_reducible refine Below.setCell ?_ ?_ _); rotate_left; (simp <;> omega)) | (with_reducible refine Below.drew ?_))


end Go.Proofs.Ytcgbbjlcijhcnaa
