/- View3: ViewOf: both functions. Each contract holds for every argument, under the premises that it states. -/
import Derived.Test.YtcgbbjlcijhcnaaView2
namespace Go.Proofs.Ytcgbbjlcijhcnaa
set_option linter.unusedSimpArgs false
set_option linter.unusedVariables false
set_option linter.unnecessarySimpa false
open Go.RowKit Go.ChangeShapes Go.WideShapes Go.ChangeAt Go.Joins

/-- a position and a number, out of a call -/
def PvRes (w : World) (y : P × Int) (e : Ending) (w' : World) : Prop := ∃ A : A2, e = .returned (.tuple #[y.1.val A.pa A.pc A.sa A.sc, .int .i64 y.2]) ∧ POwn w' w.heap.size y.1 A.pa A.pc A.sa A.sc ∧ Below w.heap.size w w'
def vofP (r : R) (p : P) : P × Int := if p.ok r = true then (viewP p, 0) else (⟨[], [], 0⟩, 1)
theorem vofP_len (r : R) (p : P) : (vofP r p).1.pits.length ≤ 1048576 ∧ (vofP r p).1.stores.length ≤ 1048576 := by
  unfold vofP
  split
  · rename_i h
    have := viewP_len h
    dsimp only
    omega
  · simp

set_option maxRecDepth 100000 in
set_option maxHeartbeats 8000000 in
theorem iViewOf_c (r : R) (p : P) (pa sa : Option Addr) (pc sc : Nat) (w : World) (h : PRow w p pa sa) (m1 : p.pits.length ≤ 16777216) (m2 : p.stores.length ≤ 16777216) (hc : p.pits.length ≤ pc) (hcm : pc ≤ maxLen) :
    Calls Try.prog 19 #[r.val, p.val pa pc sa sc] w (PvRes w (vofP r p)) := by
  have F0 := (((Fr.start w).alloc r.cells 31).alloc (p.cells pa pc sa sc) 28).allocF #[.slice none 0 0, .slice none 0 0, .int .i64 0] 28
  simp only [World.size_alloc] at F0
  have HP := Lib.hid (h.below F0.below (Nat.le_refl _))
  have HV := Lib.hid (ValidPosition_c r p pa sa pc sc _ HP.out m1 m2)
  have HPV0 : Hid (PRow w p pa sa) := h
  unfold vofP
  cases hok : p.ok r
  · rw [if_neg (by simp)]
    rw [hok] at HV
    clear hok h
    go_enter Try.func19, Try.ntmps19
    go_wp2_with fail
    refine HV.out.mono ?_
    rintro e wv ⟨rfl, hbv⟩
    have HPV := Lib.hid (HP.out.below hbv (Nat.le_refl _))
    have F0 := F0.step hbv
    obtain ⟨c0, c1, c2, c3, c4, c5, c6, c7, c8⟩ := R.boxc (F0.at 2 rfl)
    obtain ⟨d0, d1, d2⟩ := P.boxc (F0.at 1 rfl)
    clear hbv
    obtain ⟨bx, bf⟩ := F0.at 0 rfl
    obtain ⟨x0, x1, x2⟩ := (⟨bx 0 _ rfl, bx 1 _ rfl, bx 2 _ rfl⟩ : _ ∧ _ ∧ _)
    have zC : w.heap.size + 1 + 1 < wv.heap.size := F0.le 0 rfl
    have B1 := F0.below
    clear bx F0
    go_wp2
    refine bodyPost_ret (v := .tuple #[P.val ⟨[], [], 0⟩ none 0 none 0, .int .i64 1]) (by simp [results, Try.results19, go_sem, x0, x1, x2, bf, zC, P.val, P.cells]) rfl ?_
    refine ⟨⟨none, 0, none, 0⟩, rfl, ⟨World.ownsRow_nil _ _ _ _, World.ownsRow_nil _ _ _ _, .inl rfl⟩, ?_⟩
    repeat (first | (with_reducible exact B1) | ((with_reducible refine Below.setCell ?_ ?_ _); rotate_left; (simp <;> omega)) | (with_reducible refine Below.drew ?_))
  · rw [if_pos rfl]
    have HM0 : ∀ W, PRow W p pa sa → Calls Try.prog 58 #[r.val, p.val pa pc sa sc] W (PosRes W (viewP p)) := fun W hW => view_c r p hok pa sa pc sc W hW hc hcm
    rw [hok] at HV
    obtain ⟨y, hyy⟩ : ∃ y, y = viewP p := ⟨_, rfl⟩
    rw [← hyy] at HM0 ⊢
    have HM1 := Lib.hid HM0
    clear hyy HM0 hok h
    go_enter Try.func19, Try.ntmps19
    go_wp2_with fail
    refine HV.out.mono ?_
    rintro e wv ⟨rfl, hbv⟩
    have HPV := Lib.hid (HP.out.below hbv (Nat.le_refl _))
    have F0 := F0.step hbv
    obtain ⟨c0, c1, c2, c3, c4, c5, c6, c7, c8⟩ := R.boxc (F0.at 2 rfl)
    obtain ⟨d0, d1, d2⟩ := P.boxc (F0.at 1 rfl)
    clear hbv
    have HM := Lib.hid (HM1.out _ HPV.out)
    clear HM1
    go_wp2_with fail
    refine HM.out.mono ?_
    rintro e w1 ⟨ua, uc, va, vc, rfl, ho, hb1⟩
    have hzv : w.heap.size + 1 + 1 < wv.heap.size := F0.le 0 rfl
    have F1 := F0.step hb1
    obtain ⟨bx, bf⟩ := F1.at 0 rfl
    obtain ⟨x0, x1, x2⟩ := (⟨bx 0 _ rfl, bx 1 _ rfl, bx 2 _ rfl⟩ : _ ∧ _ ∧ _)
    have zC : w.heap.size + 1 + 1 < w1.heap.size := F1.le 0 rfl
    have B1 := F1.below
    (try simp only [World.size_alloc] at ho)
    have HO := Lib.hid ho
    have hzb : w.heap.size + 1 + 1 + 1 ≤ w1.heap.size := by omega
    have hzw : w.heap.size ≤ w.heap.size + 1 + 1 := by omega
    clear bx F0 F1 HM hb1 ho
    go_wp2
    refine bodyPost_ret (v := .tuple #[y.val ua uc va vc, .int .i64 0]) (by simp [results, Try.results19, go_sem, x0, x1, x2, bf, zC, P.val, P.cells]) rfl ?_
    refine ⟨⟨ua, uc, va, vc⟩, rfl, ⟨?_, ?_, HO.out.apart⟩, ?_⟩
    · have k0 := HO.out.pits
      dsimp only at k0 ⊢
      refine ownsRow_le (base := wv.heap.size) ?_ (by omega)
      repeat (first | (with_reducible exact k0) | ((with_reducible refine ownsRow_setCell_below ?_ ?_ _); rotate_left; (simp <;> omega)) | (with_reducible refine World.ownsRow.drew ?_))
    · have k0 := HO.out.stores
      dsimp only at k0 ⊢
      refine ownsRow_le (base := wv.heap.size) ?_ (by omega)
      repeat (first | (with_reducible exact k0) | ((with_reducible refine ownsRow_setCell_below ?_ ?_ _); rotate_left; (simp <;> omega)) | (with_reducible refine World.ownsRow.drew ?_))
    · repeat (first | (with_reducible exact B1) | ((with_reducible refine Below.setCell ?_ ?_ _); rotate_left; (simp <;> omega)) | (with_reducible refine Below.drew ?_))

set_option maxRecDepth 100000 in
set_option maxHeartbeats 8000000 in
theorem sViewOf_c (r : R) (p : P) (pa sa : Option Addr) (pc sc : Nat) (w : World) (h : PRow w p pa sa) (m1 : p.pits.length ≤ 16777216) (m2 : p.stores.length ≤ 16777216) (hc : p.pits.length ≤ pc) (hcm : pc ≤ maxLen) :
    Calls Try.prog 16 #[r.val, p.val pa pc sa sc] w (PvRes w (vofP r p)) := by
  have F0 := (((Fr.start w).alloc r.cells 31).alloc (p.cells pa pc sa sc) 28).allocF #[.slice none 0 0, .slice none 0 0, .int .i64 0] 28
  simp only [World.size_alloc] at F0
  have HP := Lib.hid (h.below F0.below (Nat.le_refl _))
  have hr := R.boxc (F0.at 2 rfl)
  have hp : P.At _ (w.heap.size + 1) 0 p pa pc sa sc := ⟨F0.at 1 rfl 0 _ rfl, F0.at 1 rfl 1 _ rfl, F0.at 1 rfl 2 _ rfl⟩
  have HR0 := Lib.hid hr
  have HP0 := Lib.hid hp
  clear hr hp
  have HV := Lib.hid (l04Ok_c _ _ _ _ r p pa sa pc sc _ HR0.out HP0.out HP.out m1 m2)
  have HPV0 : Hid (PRow w p pa sa) := h
  unfold vofP
  cases hok : p.ok r
  · rw [if_neg (by simp)]
    rw [hok] at HV
    clear hok h
    go_enter Try.func16, Try.ntmps16
    go_wp2_with fail
    refine HV.out.mono ?_
    rintro e wv ⟨rfl, nv, hwv⟩
    have F0 := F0.step (show Below _ _ wv from hwv ▸ below_draws _ _ nv)
    have HPV := Lib.hid (HPV0.out.below F0.below (Nat.le_refl _))
    have hr := R.boxc (F0.at 2 rfl)
    have hp : P.At wv (w.heap.size + 1) 0 p pa pc sa sc := ⟨F0.at 1 rfl 0 _ rfl, F0.at 1 rfl 1 _ rfl, F0.at 1 rfl 2 _ rfl⟩
    have HRV := Lib.hid hr
    have HPA := Lib.hid hp
    clear hwv hr hp
    obtain ⟨bx, bf⟩ := F0.at 0 rfl
    obtain ⟨x0, x1, x2⟩ := (⟨bx 0 _ rfl, bx 1 _ rfl, bx 2 _ rfl⟩ : _ ∧ _ ∧ _)
    have zC : w.heap.size + 1 + 1 < wv.heap.size := F0.le 0 rfl
    have B1 := F0.below
    clear bx F0
    go_wp2
    refine bodyPost_ret (v := .tuple #[P.val ⟨[], [], 0⟩ none 0 none 0, .int .i64 1]) (by simp [results, Try.results16, go_sem, x0, x1, x2, bf, zC, P.val, P.cells]) rfl ?_
    refine ⟨⟨none, 0, none, 0⟩, rfl, ⟨World.ownsRow_nil _ _ _ _, World.ownsRow_nil _ _ _ _, .inl rfl⟩, ?_⟩
    repeat (first | (with_reducible exact B1) | ((with_reducible refine Below.setCell ?_ ?_ _); rotate_left; (simp <;> omega)) | (with_reducible refine Below.drew ?_))
  · rw [if_pos rfl]
    have HM0 : ∀ W, R.At W w.heap.size 0 r → P.At W (w.heap.size + 1) 0 p pa pc sa sc → PRow W p pa sa → Calls Try.prog 56 #[.pointer (some ⟨w.heap.size, 0, none⟩), .pointer (some ⟨w.heap.size + 1, 0, none⟩)] W (PosRes W (viewP p)) := fun W hA hB hW => l04View_c _ _ _ _ r p hok pa sa pc sc W hA hB hW hc hcm
    rw [hok] at HV
    obtain ⟨y, hyy⟩ : ∃ y, y = viewP p := ⟨_, rfl⟩
    rw [← hyy] at HM0 ⊢
    have HM1 := Lib.hid HM0
    clear hyy HM0 hok h
    go_enter Try.func16, Try.ntmps16
    go_wp2_with fail
    refine HV.out.mono ?_
    rintro e wv ⟨rfl, nv, hwv⟩
    have F0 := F0.step (show Below _ _ wv from hwv ▸ below_draws _ _ nv)
    have HPV := Lib.hid (HPV0.out.below F0.below (Nat.le_refl _))
    have hr := R.boxc (F0.at 2 rfl)
    have hp : P.At wv (w.heap.size + 1) 0 p pa pc sa sc := ⟨F0.at 1 rfl 0 _ rfl, F0.at 1 rfl 1 _ rfl, F0.at 1 rfl 2 _ rfl⟩
    have HRV := Lib.hid hr
    have HPA := Lib.hid hp
    clear hwv hr hp
    have HM := Lib.hid (HM1.out _ HRV.out HPA.out HPV.out)
    clear HM1
    go_wp2_with fail
    refine HM.out.mono ?_
    rintro e w1 ⟨ua, uc, va, vc, rfl, ho, hb1⟩
    have hzv : w.heap.size + 1 + 1 < wv.heap.size := F0.le 0 rfl
    have F1 := F0.step hb1
    obtain ⟨bx, bf⟩ := F1.at 0 rfl
    obtain ⟨x0, x1, x2⟩ := (⟨bx 0 _ rfl, bx 1 _ rfl, bx 2 _ rfl⟩ : _ ∧ _ ∧ _)
    have zC : w.heap.size + 1 + 1 < w1.heap.size := F1.le 0 rfl
    have B1 := F1.below
    (try simp only [World.size_alloc] at ho)
    have HO := Lib.hid ho
    have hzb : w.heap.size + 1 + 1 + 1 ≤ w1.heap.size := by omega
    have hzw : w.heap.size ≤ w.heap.size + 1 + 1 := by omega
    clear bx F0 F1 HM hb1 ho
    go_wp2
    refine bodyPost_ret (v := .tuple #[y.val ua uc va vc, .int .i64 0]) (by simp [results, Try.results16, go_sem, x0, x1, x2, bf, zC, P.val, P.cells]) rfl ?_
    refine ⟨⟨ua, uc, va, vc⟩, rfl, ⟨?_, ?_, HO.out.apart⟩, ?_⟩
    · have k0 := HO.out.pits
      dsimp only at k0 ⊢
      refine ownsRow_le (base := wv.heap.size) ?_ (by omega)
      repeat (first | (with_reducible exact k0) | ((with_reducible refine ownsRow_setCell_below ?_ ?_ _); rotate_left; (simp <;> omega)) | (with_reducible refine World.ownsRow.drew ?_))
    · have k0 := HO.out.stores
      dsimp only at k0 ⊢
      refine ownsRow_le (base := wv.heap.size) ?_ (by omega)
      repeat (first | (with_reducible exact k0) | ((with_reducible refine ownsRow_setCell_below ?_ ?_ _); rotate_left; (simp <;> omega)) | (with_reducible refine World.ownsRow.drew ?_))
    · repeat (first | (with_reducible exact B1) | ((with_reducible refine Below.setCell ?_ ?_ _); rotate_left; (simp <;> omega)) | (with_reducible refine Below.drew ?_))

end Go.Proofs.Ytcgbbjlcijhcnaa
