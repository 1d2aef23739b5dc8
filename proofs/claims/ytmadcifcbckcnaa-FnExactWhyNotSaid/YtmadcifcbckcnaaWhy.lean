/- Why: why a move is not legal, in words: both functions. Each contract holds for every argument, under the premises that it states. -/
import Derived.Test.YtmadcifcbckcnaaMf
import Derived.Test.YtmadcifcbckcnaaHeld
namespace Go.Proofs.Ytmadcifcbckcnaa
set_option linter.unusedSimpArgs false
set_option linter.unusedVariables false
set_option linter.unnecessarySimpa false
open Go.RowKit Go.ChangeShapes Go.WideShapes Go.ChangeAt Go.Joins

def whyA : ByteArray := ⟨#[110, 111, 32, 115, 117, 99, 104, 32, 109, 111, 118, 101]⟩
def whyB : ByteArray := ⟨#[116, 104, 101, 32, 112, 105, 116, 32, 105, 115, 32, 101, 109, 112, 116, 121]⟩
def whyC : ByteArray := ⟨#[116, 104, 101, 32, 109, 111, 118, 101, 32, 100, 111, 101, 115, 32, 110, 111, 116, 32, 101, 110, 100]⟩
def whyD : ByteArray := ⟨#[97, 108, 108, 32, 115, 101, 101, 100, 115, 32, 111, 102, 32, 116, 104, 101, 32, 111, 116, 104, 101, 114, 32, 112, 108, 97, 121, 101, 114, 32, 119, 111, 117, 108, 100, 32, 98, 101, 32, 99, 97, 112, 116, 117, 114, 101, 100]⟩
def whyE : ByteArray := ⟨#[116, 104, 101, 32, 111, 116, 104, 101, 114, 32, 112, 108, 97, 121, 101, 114, 32, 119, 111, 117, 108, 100, 32, 104, 97, 118, 101, 32, 110, 111, 32, 115, 101, 101, 100, 115]⟩
def slamO (r : R) (p : P) (move : Int) : Bool := match sowP r p.player (p.player * r.pits + move) p.pits p.stores with | none => false | some (L, _) => decide (r.slam = 1) && slamP r p.player L.pits L.last
def whyT (r : R) (p : P) (move c : Int) : ByteArray := if c = 2 then whyA else if c = 6 then whyB else if c = 10 then whyC else if slamO r p move = true then whyD else whyE
def whyP (r : R) (p : P) (move : Int) : ByteArray × Int :=
  if (doneP r p move).code = 0 then (⟨#[]⟩, 3) else if (doneP r p move).code = 1 then (⟨#[]⟩, 1) else (whyT r p move (doneP r p move).code, 0)
theorem codeP_cases (r : R) (p : P) (move : Int) : codeP r p move = 0 ∨ codeP r p move = 1 ∨ codeP r p move = 2 ∨ codeP r p move = 6 := by
  unfold codeP
  split
  · simp
  · split
    · simp
    · split <;> simp
theorem doneP_nine {r : R} {p : P} {move : Int} (h0 : ¬ (doneP r p move).code = 0) (h1 : ¬ (doneP r p move).code = 1) (h2 : ¬ (doneP r p move).code = 2) (h6 : ¬ (doneP r p move).code = 6) (h10 : ¬ (doneP r p move).code = 10) :
    codeP r p move = 0 ∧ ∃ L n, sowP r p.player (p.player * r.pits + move) p.pits p.stores = some (L, n) := by
  by_cases hc : codeP r p move = 0
  · refine ⟨hc, ?_⟩
    cases ho : sowP r p.player (p.player * r.pits + move) p.pits p.stores with
    | none =>
      rw [doneP_bad (c := 10) (by omega) (.inr ⟨hc, ho, rfl⟩)] at h10
      exact absurd rfl h10
    | some x => exact ⟨x.1, x.2, rfl⟩
  · rw [doneP_bad hc (.inl rfl)] at h1 h2 h6
    rcases codeP_cases r p move with h | h | h | h
    · exact absurd h hc
    · exact absurd h h1
    · exact absurd h h2
    · exact absurd h h6

set_option maxRecDepth 100000 in
set_option maxHeartbeats 8000000 in
theorem iWhyNot_c (r : R) (p : P) (move : Int) (pa sa : Option Addr) (pc sc : Nat) (w : World) (h : PRow w p pa sa) (m1 : p.pits.length ≤ 16777216) (m2 : p.stores.length ≤ 16777216) (hc : p.pits.length ≤ pc) (hcm : pc ≤ maxLen) :
    Calls Try.prog 19 #[r.val, p.val pa pc sa sc, .int .i64 move] w fun e w' => e = .returned (.tuple #[.string (whyP r p move).1, .int .i64 (whyP r p move).2]) ∧ Below w.heap.size w w' := by
  have F0 := ((Fr.start w).alloc r.cells 30).alloc (p.cells pa pc sa sc) 32
  obtain ⟨c, hcd⟩ : ∃ c, (doneP r p move).code = c := ⟨_, rfl⟩
  have HC := Lib.hid (fun W (H : PRow W p pa sa) => iMoveFault_c r p move pa sa pc sc W H m1 m2 hc hcm)
  have HW := Lib.hid (fun W (H : PRow W p pa sa) => sowMove_c r p move pa sa pc sc W H m1 m2)
  rw [hcd] at HC
  obtain ⟨y, hy⟩ : ∃ y, y = whyP r p move := ⟨_, rfl⟩
  rw [← hy]
  have HY : Hid (y = if c = 0 then (⟨#[]⟩, 3) else if c = 1 then (⟨#[]⟩, 1) else (whyT r p move c, 0)) := by unfold Hid; rw [hy, whyP, hcd]
  have HD := Lib.hid hcd
  clear hy hcd
  go_enter Try.func19, Try.ntmps19
  go_wp2_with fail
  refine (HC.out _ (h.below F0.below (Nat.le_refl _))).mono ?_
  rintro e w1 ⟨rfl, hb1⟩
  have F1 := F0.step hb1
  clear hb1 F0 HC
  by_cases g0 : c = 0
  · have e0 : (c == 0) = true := by simpa using g0
    have HE : Hid (y = (⟨#[]⟩, 3)) := by unfold Hid; rw [HY.out, if_pos g0]
    clear g0
    go_wp2
    go_ret2
    rw [HE.out]
    exact ⟨rfl, F1.below⟩
  have e0 : (c == 0) = false := by simpa using g0
  by_cases g1 : c = 1
  · have e1 : (c == 1) = true := by simpa using g1
    have HE : Hid (y = (⟨#[]⟩, 1)) := by unfold Hid; rw [HY.out, if_neg g0, if_pos g1]
    clear g0 g1
    go_wp2
    go_ret2
    rw [HE.out]
    exact ⟨rfl, F1.below⟩
  have e1 : (c == 1) = false := by simpa using g1
  have HY2 : Hid (y = (whyT r p move c, 0)) := by unfold Hid; rw [HY.out, if_neg g0, if_neg g1]
  by_cases g2 : c = 2
  · have e2 : (c == 2) = true := by simpa using g2
    have HE : Hid (y = (whyA, 0)) := by unfold Hid; rw [HY2.out, whyT, if_pos g2]
    clear g0 g1 g2
    go_wp2
    go_ret2
    rw [HE.out]
    exact ⟨rfl, F1.below⟩
  have e2 : (c == 2) = false := by simpa using g2
  by_cases g6 : c = 6
  · have e6 : (c == 6) = true := by simpa using g6
    have HE : Hid (y = (whyB, 0)) := by unfold Hid; rw [HY2.out, whyT, if_neg g2, if_pos g6]
    clear g0 g1 g2 g6
    go_wp2
    go_ret2
    rw [HE.out]
    exact ⟨rfl, F1.below⟩
  have e6 : (c == 6) = false := by simpa using g6
  by_cases g10 : c = 10
  · have e10 : (c == 10) = true := by simpa using g10
    have HE : Hid (y = (whyC, 0)) := by unfold Hid; rw [HY2.out, whyT, if_neg g2, if_neg g6, if_pos g10]
    clear g0 g1 g2 g6 g10
    go_wp2
    go_ret2
    rw [HE.out]
    exact ⟨rfl, F1.below⟩
  have e10 : (c == 10) = false := by simpa using g10
  have HE : Hid (y = (if slamO r p move = true then whyD else whyE, 0)) := by unfold Hid; rw [HY2.out, whyT, if_neg g2, if_neg g6, if_neg g10]
  have H9 : Hid (codeP r p move = 0 ∧ ∃ L n, sowP r p.player (p.player * r.pits + move) p.pits p.stores = some (L, n)) := doneP_nine (by rw [HD.out]; exact g0) (by rw [HD.out]; exact g1) (by rw [HD.out]; exact g2) (by rw [HD.out]; exact g6) (by rw [HD.out]; exact g10)
  obtain ⟨c0, c1, c2, c3, c4, c5, c6, c7, c8⟩ := R.boxc (F1.at 1 rfl)
  obtain ⟨d0, d1, d2⟩ := P.boxc (F1.at 0 rfl)
  simp only [World.size_alloc] at d0 d1 d2
  clear g0 g1 g2 g6 g10
  go_wp2_with fail
  refine (HW.out _ (h.below F1.below (Nat.le_refl _))).mono ?_
  rintro e w2 hsm
  have F2 := F1.step (SowM.below hsm)
  rcases hsm with ⟨k, hk, hor, rfl, _⟩ | ⟨L, n, sb, pg, qc, sg, tc, ta, tac, hc0, ho, rfl, hs, hf, hw, ho', ha, _⟩
  · exfalso
    obtain ⟨q1, L, n, q2⟩ := H9.out
    rcases hor with q3 | ⟨_, q3, _⟩
    · omega
    · rw [q2] at q3; cases q3
  obtain ⟨hok, hbd, ⟨pn, hpn, hpn1⟩, t, hB, ht1, hpo⟩ := sowP_brd hc0 ho
  have hcap := own_caps hs.op
  have HSL : Hid (∀ W, Below w2.heap.size w2 W → Calls Try.prog 64 #[r.val, snV L.pits L.stores L.last n (some ⟨pg, 0, none⟩) qc (some ⟨sg, 0, none⟩) tc, .int .i64 p.player] W fun e w' => e = .returned (.bool (slamP r p.player L.pits L.last)) ∧ Below W.heap.size W w') := fun W hW => by
    rw [hpn]; exact slams_c r hbd pn hpn1 L.pits L.stores L.last n _ _ qc tc W ((own_row hs.op).below hW (Nat.le_refl _)) hB.lp hpo (hB.allIn ht1) hcap.1 hcap.2
  obtain ⟨sv, hsv⟩ : ∃ sv, sv = slamP r p.player L.pits L.last := ⟨_, rfl⟩
  rw [← hsv] at HSL
  have HSO : Hid (slamO r p move = (decide (r.slam = 1) && sv)) := by unfold Hid slamO; rw [ho, hsv]
  obtain ⟨k0, k1, k2, k3⟩ := (⟨hs.c0, hs.c1, hf.c2, hf.c3⟩ : _ ∧ _ ∧ _ ∧ _)
  simp only [Nat.reduceAdd] at k0 k1 k2 k3
  have hsb : sb < w2.heap.size := hs.lt
  obtain ⟨c0, c1, c2, c3, c4, c5, c6, c7, c8⟩ := R.boxc (F2.at 1 rfl)
  obtain ⟨d0, d1, d2⟩ := P.boxc (F2.at 0 rfl)
  simp only [World.size_alloc] at d0 d1 d2
  have zA : w.heap.size < w2.heap.size := F2.le 1 rfl
  have zB : w.heap.size + 1 < w2.heap.size := by have := F2.le 0 rfl; simp at this; omega
  have B2 := F2.below
  have D0 : Below w2.heap.size w2 w2.drew := (Below.refl _ _).drew
  clear hs hf hw ho' ha hc0 ho hpn hpn1 hB hpo hcap hsv F1 F2 HW hok
  by_cases hs1 : r.slam = 1
  · have f1 : (r.slam == 1) = true := by simpa using hs1
    have HS1 := Lib.hid hs1
    clear hs1
    cases sv
    · go_wp2_with fail
      refine heldH (S := fun w' => ∀ b o, b < w2.heap.size → w'.cell? ⟨b, o, none⟩ = w2.cell? ⟨b, o, none⟩) (n := 13) (listed := #[false, false, false, false, false, false, false, false, false, false, false, false, false]) (by kernel_rfl) (by rfl) (by rfl) ?_ (fun hHeld => ?_)
      (focus ((try dsimp only); (first | done | ((first | exact hcA | (intro b o h; rfl)); done))))
      (first | ((refine takeH (i := 0) (v := ?_) (by decide +kernel) (by decide +kernel) (by kernel_rfl) (by rfl) (by exact fun _ _ _ h => h) (by rfl) ?_ (by assumption) ?_); rotate_left; (focus (intro w hSw; (try dsimp only at hSw); go_simp; (try with_reducible rfl); done)); (try simp only [Act.put, List.setIfInBounds_toArray, List.set_cons_zero, List.set_cons_succ])) | ((refine skipH (i := 0) (by decide +kernel) (by decide +kernel) (by kernel_rfl) (by rfl) (by exact fun _ _ _ h => h) (by rfl) (by assumption) ?_); (try simp only [Act.put, List.setIfInBounds_toArray, List.set_cons_zero, List.set_cons_succ])))
      (first | ((refine takeH (i := 1) (v := ?_) (by decide +kernel) (by decide +kernel) (by kernel_rfl) (by rfl) (by exact fun _ _ _ h => h) (by rfl) ?_ (by assumption) ?_); rotate_left; (focus (intro w hSw; (try dsimp only at hSw); go_simp; (try with_reducible rfl); done)); (try simp only [Act.put, List.setIfInBounds_toArray, List.set_cons_zero, List.set_cons_succ])) | ((refine skipH (i := 1) (by decide +kernel) (by decide +kernel) (by kernel_rfl) (by rfl) (by exact fun _ _ _ h => h) (by rfl) (by assumption) ?_); (try simp only [Act.put, List.setIfInBounds_toArray, List.set_cons_zero, List.set_cons_succ])))
      (first | ((refine takeH (i := 2) (v := ?_) (by decide +kernel) (by decide +kernel) (by kernel_rfl) (by rfl) (by exact fun _ _ _ h => h) (by rfl) ?_ (by assumption) ?_); rotate_left; (focus (intro w hSw; (try dsimp only at hSw); go_simp; (try with_reducible rfl); done)); (try simp only [Act.put, List.setIfInBounds_toArray, List.set_cons_zero, List.set_cons_succ])) | ((refine skipH (i := 2) (by decide +kernel) (by decide +kernel) (by kernel_rfl) (by rfl) (by exact fun _ _ _ h => h) (by rfl) (by assumption) ?_); (try simp only [Act.put, List.setIfInBounds_toArray, List.set_cons_zero, List.set_cons_succ])))
      (first | ((refine takeH (i := 3) (v := ?_) (by decide +kernel) (by decide +kernel) (by kernel_rfl) (by rfl) (by exact fun _ _ _ h => h) (by rfl) ?_ (by assumption) ?_); rotate_left; (focus (intro w hSw; (try dsimp only at hSw); go_simp; (try with_reducible rfl); done)); (try simp only [Act.put, List.setIfInBounds_toArray, List.set_cons_zero, List.set_cons_succ])) | ((refine skipH (i := 3) (by decide +kernel) (by decide +kernel) (by kernel_rfl) (by rfl) (by exact fun _ _ _ h => h) (by rfl) (by assumption) ?_); (try simp only [Act.put, List.setIfInBounds_toArray, List.set_cons_zero, List.set_cons_succ])))
      (first | ((refine takeH (i := 4) (v := ?_) (by decide +kernel) (by decide +kernel) (by kernel_rfl) (by rfl) (by exact fun _ _ _ h => h) (by rfl) ?_ (by assumption) ?_); rotate_left; (focus (intro w hSw; (try dsimp only at hSw); go_simp; (try with_reducible rfl); done)); (try simp only [Act.put, List.setIfInBounds_toArray, List.set_cons_zero, List.set_cons_succ])) | ((refine skipH (i := 4) (by decide +kernel) (by decide +kernel) (by kernel_rfl) (by rfl) (by exact fun _ _ _ h => h) (by rfl) (by assumption) ?_); (try simp only [Act.put, List.setIfInBounds_toArray, List.set_cons_zero, List.set_cons_succ])))
      (first | ((refine takeH (i := 5) (v := ?_) (by decide +kernel) (by decide +kernel) (by kernel_rfl) (by rfl) (by exact fun _ _ _ h => h) (by rfl) ?_ (by assumption) ?_); rotate_left; (focus (intro w hSw; (try dsimp only at hSw); go_simp; (try with_reducible rfl); done)); (try simp only [Act.put, List.setIfInBounds_toArray, List.set_cons_zero, List.set_cons_succ])) | ((refine skipH (i := 5) (by decide +kernel) (by decide +kernel) (by kernel_rfl) (by rfl) (by exact fun _ _ _ h => h) (by rfl) (by assumption) ?_); (try simp only [Act.put, List.setIfInBounds_toArray, List.set_cons_zero, List.set_cons_succ])))
      (first | ((refine takeH (i := 6) (v := ?_) (by decide +kernel) (by decide +kernel) (by kernel_rfl) (by rfl) (by exact fun _ _ _ h => h) (by rfl) ?_ (by assumption) ?_); rotate_left; (focus (intro w hSw; (try dsimp only at hSw); go_simp; (try with_reducible rfl); done)); (try simp only [Act.put, List.setIfInBounds_toArray, List.set_cons_zero, List.set_cons_succ])) | ((refine skipH (i := 6) (by decide +kernel) (by decide +kernel) (by kernel_rfl) (by rfl) (by exact fun _ _ _ h => h) (by rfl) (by assumption) ?_); (try simp only [Act.put, List.setIfInBounds_toArray, List.set_cons_zero, List.set_cons_succ])))
      (first | ((refine takeH (i := 7) (v := ?_) (by decide +kernel) (by decide +kernel) (by kernel_rfl) (by rfl) (by exact fun _ _ _ h => h) (by rfl) ?_ (by assumption) ?_); rotate_left; (focus (intro w hSw; (try dsimp only at hSw); go_simp; (try with_reducible rfl); done)); (try simp only [Act.put, List.setIfInBounds_toArray, List.set_cons_zero, List.set_cons_succ])) | ((refine skipH (i := 7) (by decide +kernel) (by decide +kernel) (by kernel_rfl) (by rfl) (by exact fun _ _ _ h => h) (by rfl) (by assumption) ?_); (try simp only [Act.put, List.setIfInBounds_toArray, List.set_cons_zero, List.set_cons_succ])))
      (first | ((refine takeH (i := 8) (v := ?_) (by decide +kernel) (by decide +kernel) (by kernel_rfl) (by rfl) (by exact fun _ _ _ h => h) (by rfl) ?_ (by assumption) ?_); rotate_left; (focus (intro w hSw; (try dsimp only at hSw); go_simp; (try with_reducible rfl); done)); (try simp only [Act.put, List.setIfInBounds_toArray, List.set_cons_zero, List.set_cons_succ])) | ((refine skipH (i := 8) (by decide +kernel) (by decide +kernel) (by kernel_rfl) (by rfl) (by exact fun _ _ _ h => h) (by rfl) (by assumption) ?_); (try simp only [Act.put, List.setIfInBounds_toArray, List.set_cons_zero, List.set_cons_succ])))
      (first | ((refine takeH (i := 9) (v := ?_) (by decide +kernel) (by decide +kernel) (by kernel_rfl) (by rfl) (by exact fun _ _ _ h => h) (by rfl) ?_ (by assumption) ?_); rotate_left; (focus (intro w hSw; (try dsimp only at hSw); go_simp; (try with_reducible rfl); done)); (try simp only [Act.put, List.setIfInBounds_toArray, List.set_cons_zero, List.set_cons_succ])) | ((refine skipH (i := 9) (by decide +kernel) (by decide +kernel) (by kernel_rfl) (by rfl) (by exact fun _ _ _ h => h) (by rfl) (by assumption) ?_); (try simp only [Act.put, List.setIfInBounds_toArray, List.set_cons_zero, List.set_cons_succ])))
      (first | ((refine takeH (i := 10) (v := ?_) (by decide +kernel) (by decide +kernel) (by kernel_rfl) (by rfl) (by exact fun _ _ _ h => h) (by rfl) ?_ (by assumption) ?_); rotate_left; (focus (intro w hSw; (try dsimp only at hSw); go_simp; (try with_reducible rfl); done)); (try simp only [Act.put, List.setIfInBounds_toArray, List.set_cons_zero, List.set_cons_succ])) | ((refine skipH (i := 10) (by decide +kernel) (by decide +kernel) (by kernel_rfl) (by rfl) (by exact fun _ _ _ h => h) (by rfl) (by assumption) ?_); (try simp only [Act.put, List.setIfInBounds_toArray, List.set_cons_zero, List.set_cons_succ])))
      (first | ((refine nextH (i := 11) (by decide +kernel) (by rfl) (by rfl) (fun K hK => ?_)); go_simp; ((go_at_call 64; (refine (HSL.out _ D0).mono ?_); (rintro e wA ⟨rfl, hbA⟩); (have BA : Below w2.heap.size w2 wA := below_next D0 hbA); (obtain ⟨hcA, hfA⟩ := bcell BA))); (refine hK.out _ _ ?_ (fun hHeld' => ?_)); (focus ((try dsimp only); (first | done | ((first | exact hcA | (intro b o h; rfl)); done)))); clear hK K hHeld; have hHeld := hHeld'; clear hHeld'; (try simp only [Act.put, List.setIfInBounds_toArray, List.set_cons_zero, List.set_cons_succ])) | ((refine skipH (i := 11) (by decide +kernel) (by decide +kernel) (by kernel_rfl) (by rfl) (by exact fun _ _ _ h => h) (by rfl) (by assumption) ?_); (try simp only [Act.put, List.setIfInBounds_toArray, List.set_cons_zero, List.set_cons_succ])))
      (first | ((refine takeH (i := 12) (v := ?_) (by decide +kernel) (by decide +kernel) (by kernel_rfl) (by rfl) (by exact fun _ _ _ h => h) (by rfl) ?_ (by assumption) ?_); rotate_left; (focus (intro w hSw; (try dsimp only at hSw); go_simp; (try with_reducible rfl); done)); (try simp only [Act.put, List.setIfInBounds_toArray, List.set_cons_zero, List.set_cons_succ])) | ((refine skipH (i := 12) (by decide +kernel) (by decide +kernel) (by kernel_rfl) (by rfl) (by exact fun _ _ _ h => h) (by rfl) (by assumption) ?_); (try simp only [Act.put, List.setIfInBounds_toArray, List.set_cons_zero, List.set_cons_succ])))
      refine wpAnyH_done (by decide +kernel) ?_ _
      have BF : Below w.heap.size w wA := B2.trans (BA.mono (by omega))
      go_wp2
      go_ret2
      rw [HE.out, HSO.out, HS1.out]
      exact ⟨rfl, BF⟩
    · go_wp2_with fail
      refine heldH (S := fun w' => ∀ b o, b < w2.heap.size → w'.cell? ⟨b, o, none⟩ = w2.cell? ⟨b, o, none⟩) (n := 13) (listed := #[false, false, false, false, false, false, false, false, false, false, false, false, false]) (by kernel_rfl) (by rfl) (by rfl) ?_ (fun hHeld => ?_)
      (focus ((try dsimp only); (first | done | ((first | exact hcA | (intro b o h; rfl)); done))))
      (first | ((refine takeH (i := 0) (v := ?_) (by decide +kernel) (by decide +kernel) (by kernel_rfl) (by rfl) (by exact fun _ _ _ h => h) (by rfl) ?_ (by assumption) ?_); rotate_left; (focus (intro w hSw; (try dsimp only at hSw); go_simp; (try with_reducible rfl); done)); (try simp only [Act.put, List.setIfInBounds_toArray, List.set_cons_zero, List.set_cons_succ])) | ((refine skipH (i := 0) (by decide +kernel) (by decide +kernel) (by kernel_rfl) (by rfl) (by exact fun _ _ _ h => h) (by rfl) (by assumption) ?_); (try simp only [Act.put, List.setIfInBounds_toArray, List.set_cons_zero, List.set_cons_succ])))
      (first | ((refine takeH (i := 1) (v := ?_) (by decide +kernel) (by decide +kernel) (by kernel_rfl) (by rfl) (by exact fun _ _ _ h => h) (by rfl) ?_ (by assumption) ?_); rotate_left; (focus (intro w hSw; (try dsimp only at hSw); go_simp; (try with_reducible rfl); done)); (try simp only [Act.put, List.setIfInBounds_toArray, List.set_cons_zero, List.set_cons_succ])) | ((refine skipH (i := 1) (by decide +kernel) (by decide +kernel) (by kernel_rfl) (by rfl) (by exact fun _ _ _ h => h) (by rfl) (by assumption) ?_); (try simp only [Act.put, List.setIfInBounds_toArray, List.set_cons_zero, List.set_cons_succ])))
      (first | ((refine takeH (i := 2) (v := ?_) (by decide +kernel) (by decide +kernel) (by kernel_rfl) (by rfl) (by exact fun _ _ _ h => h) (by rfl) ?_ (by assumption) ?_); rotate_left; (focus (intro w hSw; (try dsimp only at hSw); go_simp; (try with_reducible rfl); done)); (try simp only [Act.put, List.setIfInBounds_toArray, List.set_cons_zero, List.set_cons_succ])) | ((refine skipH (i := 2) (by decide +kernel) (by decide +kernel) (by kernel_rfl) (by rfl) (by exact fun _ _ _ h => h) (by rfl) (by assumption) ?_); (try simp only [Act.put, List.setIfInBounds_toArray, List.set_cons_zero, List.set_cons_succ])))
      (first | ((refine takeH (i := 3) (v := ?_) (by decide +kernel) (by decide +kernel) (by kernel_rfl) (by rfl) (by exact fun _ _ _ h => h) (by rfl) ?_ (by assumption) ?_); rotate_left; (focus (intro w hSw; (try dsimp only at hSw); go_simp; (try with_reducible rfl); done)); (try simp only [Act.put, List.setIfInBounds_toArray, List.set_cons_zero, List.set_cons_succ])) | ((refine skipH (i := 3) (by decide +kernel) (by decide +kernel) (by kernel_rfl) (by rfl) (by exact fun _ _ _ h => h) (by rfl) (by assumption) ?_); (try simp only [Act.put, List.setIfInBounds_toArray, List.set_cons_zero, List.set_cons_succ])))
      (first | ((refine takeH (i := 4) (v := ?_) (by decide +kernel) (by decide +kernel) (by kernel_rfl) (by rfl) (by exact fun _ _ _ h => h) (by rfl) ?_ (by assumption) ?_); rotate_left; (focus (intro w hSw; (try dsimp only at hSw); go_simp; (try with_reducible rfl); done)); (try simp only [Act.put, List.setIfInBounds_toArray, List.set_cons_zero, List.set_cons_succ])) | ((refine skipH (i := 4) (by decide +kernel) (by decide +kernel) (by kernel_rfl) (by rfl) (by exact fun _ _ _ h => h) (by rfl) (by assumption) ?_); (try simp only [Act.put, List.setIfInBounds_toArray, List.set_cons_zero, List.set_cons_succ])))
      (first | ((refine takeH (i := 5) (v := ?_) (by decide +kernel) (by decide +kernel) (by kernel_rfl) (by rfl) (by exact fun _ _ _ h => h) (by rfl) ?_ (by assumption) ?_); rotate_left; (focus (intro w hSw; (try dsimp only at hSw); go_simp; (try with_reducible rfl); done)); (try simp only [Act.put, List.setIfInBounds_toArray, List.set_cons_zero, List.set_cons_succ])) | ((refine skipH (i := 5) (by decide +kernel) (by decide +kernel) (by kernel_rfl) (by rfl) (by exact fun _ _ _ h => h) (by rfl) (by assumption) ?_); (try simp only [Act.put, List.setIfInBounds_toArray, List.set_cons_zero, List.set_cons_succ])))
      (first | ((refine takeH (i := 6) (v := ?_) (by decide +kernel) (by decide +kernel) (by kernel_rfl) (by rfl) (by exact fun _ _ _ h => h) (by rfl) ?_ (by assumption) ?_); rotate_left; (focus (intro w hSw; (try dsimp only at hSw); go_simp; (try with_reducible rfl); done)); (try simp only [Act.put, List.setIfInBounds_toArray, List.set_cons_zero, List.set_cons_succ])) | ((refine skipH (i := 6) (by decide +kernel) (by decide +kernel) (by kernel_rfl) (by rfl) (by exact fun _ _ _ h => h) (by rfl) (by assumption) ?_); (try simp only [Act.put, List.setIfInBounds_toArray, List.set_cons_zero, List.set_cons_succ])))
      (first | ((refine takeH (i := 7) (v := ?_) (by decide +kernel) (by decide +kernel) (by kernel_rfl) (by rfl) (by exact fun _ _ _ h => h) (by rfl) ?_ (by assumption) ?_); rotate_left; (focus (intro w hSw; (try dsimp only at hSw); go_simp; (try with_reducible rfl); done)); (try simp only [Act.put, List.setIfInBounds_toArray, List.set_cons_zero, List.set_cons_succ])) | ((refine skipH (i := 7) (by decide +kernel) (by decide +kernel) (by kernel_rfl) (by rfl) (by exact fun _ _ _ h => h) (by rfl) (by assumption) ?_); (try simp only [Act.put, List.setIfInBounds_toArray, List.set_cons_zero, List.set_cons_succ])))
      (first | ((refine takeH (i := 8) (v := ?_) (by decide +kernel) (by decide +kernel) (by kernel_rfl) (by rfl) (by exact fun _ _ _ h => h) (by rfl) ?_ (by assumption) ?_); rotate_left; (focus (intro w hSw; (try dsimp only at hSw); go_simp; (try with_reducible rfl); done)); (try simp only [Act.put, List.setIfInBounds_toArray, List.set_cons_zero, List.set_cons_succ])) | ((refine skipH (i := 8) (by decide +kernel) (by decide +kernel) (by kernel_rfl) (by rfl) (by exact fun _ _ _ h => h) (by rfl) (by assumption) ?_); (try simp only [Act.put, List.setIfInBounds_toArray, List.set_cons_zero, List.set_cons_succ])))
      (first | ((refine takeH (i := 9) (v := ?_) (by decide +kernel) (by decide +kernel) (by kernel_rfl) (by rfl) (by exact fun _ _ _ h => h) (by rfl) ?_ (by assumption) ?_); rotate_left; (focus (intro w hSw; (try dsimp only at hSw); go_simp; (try with_reducible rfl); done)); (try simp only [Act.put, List.setIfInBounds_toArray, List.set_cons_zero, List.set_cons_succ])) | ((refine skipH (i := 9) (by decide +kernel) (by decide +kernel) (by kernel_rfl) (by rfl) (by exact fun _ _ _ h => h) (by rfl) (by assumption) ?_); (try simp only [Act.put, List.setIfInBounds_toArray, List.set_cons_zero, List.set_cons_succ])))
      (first | ((refine takeH (i := 10) (v := ?_) (by decide +kernel) (by decide +kernel) (by kernel_rfl) (by rfl) (by exact fun _ _ _ h => h) (by rfl) ?_ (by assumption) ?_); rotate_left; (focus (intro w hSw; (try dsimp only at hSw); go_simp; (try with_reducible rfl); done)); (try simp only [Act.put, List.setIfInBounds_toArray, List.set_cons_zero, List.set_cons_succ])) | ((refine skipH (i := 10) (by decide +kernel) (by decide +kernel) (by kernel_rfl) (by rfl) (by exact fun _ _ _ h => h) (by rfl) (by assumption) ?_); (try simp only [Act.put, List.setIfInBounds_toArray, List.set_cons_zero, List.set_cons_succ])))
      (first | ((refine nextH (i := 11) (by decide +kernel) (by rfl) (by rfl) (fun K hK => ?_)); go_simp; ((go_at_call 64; (refine (HSL.out _ D0).mono ?_); (rintro e wA ⟨rfl, hbA⟩); (have BA : Below w2.heap.size w2 wA := below_next D0 hbA); (obtain ⟨hcA, hfA⟩ := bcell BA))); (refine hK.out _ _ ?_ (fun hHeld' => ?_)); (focus ((try dsimp only); (first | done | ((first | exact hcA | (intro b o h; rfl)); done)))); clear hK K hHeld; have hHeld := hHeld'; clear hHeld'; (try simp only [Act.put, List.setIfInBounds_toArray, List.set_cons_zero, List.set_cons_succ])) | ((refine skipH (i := 11) (by decide +kernel) (by decide +kernel) (by kernel_rfl) (by rfl) (by exact fun _ _ _ h => h) (by rfl) (by assumption) ?_); (try simp only [Act.put, List.setIfInBounds_toArray, List.set_cons_zero, List.set_cons_succ])))
      (first | ((refine takeH (i := 12) (v := ?_) (by decide +kernel) (by decide +kernel) (by kernel_rfl) (by rfl) (by exact fun _ _ _ h => h) (by rfl) ?_ (by assumption) ?_); rotate_left; (focus (intro w hSw; (try dsimp only at hSw); go_simp; (try with_reducible rfl); done)); (try simp only [Act.put, List.setIfInBounds_toArray, List.set_cons_zero, List.set_cons_succ])) | ((refine skipH (i := 12) (by decide +kernel) (by decide +kernel) (by kernel_rfl) (by rfl) (by exact fun _ _ _ h => h) (by rfl) (by assumption) ?_); (try simp only [Act.put, List.setIfInBounds_toArray, List.set_cons_zero, List.set_cons_succ])))
      refine wpAnyH_done (by decide +kernel) ?_ _
      have BF : Below w.heap.size w wA := B2.trans (BA.mono (by omega))
      go_wp2
      go_ret2
      rw [HE.out, HSO.out, HS1.out]
      exact ⟨rfl, BF⟩
  · have f1 : (r.slam == 1) = false := by simpa using hs1
    have HS1 := Lib.hid hs1
    clear hs1
    go_wp2_with fail
    refine heldH (S := fun w' => ∀ b o, b < w2.heap.size → w'.cell? ⟨b, o, none⟩ = w2.cell? ⟨b, o, none⟩) (n := 13) (listed := #[false, false, false, false, false, false, false, false, false, false, false, false, false]) (by kernel_rfl) (by rfl) (by rfl) ?_ (fun hHeld => ?_)
    (focus ((try dsimp only); (first | done | (((intro b o h; rfl)); done))))
    (first | ((refine takeH (i := 0) (v := ?_) (by decide +kernel) (by decide +kernel) (by kernel_rfl) (by rfl) (by exact fun _ _ _ h => h) (by rfl) ?_ (by assumption) ?_); rotate_left; (focus (intro w hSw; (try dsimp only at hSw); go_simp; (try with_reducible rfl); done)); (try simp only [Act.put, List.setIfInBounds_toArray, List.set_cons_zero, List.set_cons_succ])) | ((refine skipH (i := 0) (by decide +kernel) (by decide +kernel) (by kernel_rfl) (by rfl) (by exact fun _ _ _ h => h) (by rfl) (by assumption) ?_); (try simp only [Act.put, List.setIfInBounds_toArray, List.set_cons_zero, List.set_cons_succ])))
    (first | ((refine takeH (i := 1) (v := ?_) (by decide +kernel) (by decide +kernel) (by kernel_rfl) (by rfl) (by exact fun _ _ _ h => h) (by rfl) ?_ (by assumption) ?_); rotate_left; (focus (intro w hSw; (try dsimp only at hSw); go_simp; (try with_reducible rfl); done)); (try simp only [Act.put, List.setIfInBounds_toArray, List.set_cons_zero, List.set_cons_succ])) | ((refine skipH (i := 1) (by decide +kernel) (by decide +kernel) (by kernel_rfl) (by rfl) (by exact fun _ _ _ h => h) (by rfl) (by assumption) ?_); (try simp only [Act.put, List.setIfInBounds_toArray, List.set_cons_zero, List.set_cons_succ])))
    (first | ((refine takeH (i := 2) (v := ?_) (by decide +kernel) (by decide +kernel) (by kernel_rfl) (by rfl) (by exact fun _ _ _ h => h) (by rfl) ?_ (by assumption) ?_); rotate_left; (focus (intro w hSw; (try dsimp only at hSw); go_simp; (try with_reducible rfl); done)); (try simp only [Act.put, List.setIfInBounds_toArray, List.set_cons_zero, List.set_cons_succ])) | ((refine skipH (i := 2) (by decide +kernel) (by decide +kernel) (by kernel_rfl) (by rfl) (by exact fun _ _ _ h => h) (by rfl) (by assumption) ?_); (try simp only [Act.put, List.setIfInBounds_toArray, List.set_cons_zero, List.set_cons_succ])))
    (first | ((refine takeH (i := 3) (v := ?_) (by decide +kernel) (by decide +kernel) (by kernel_rfl) (by rfl) (by exact fun _ _ _ h => h) (by rfl) ?_ (by assumption) ?_); rotate_left; (focus (intro w hSw; (try dsimp only at hSw); go_simp; (try with_reducible rfl); done)); (try simp only [Act.put, List.setIfInBounds_toArray, List.set_cons_zero, List.set_cons_succ])) | ((refine skipH (i := 3) (by decide +kernel) (by decide +kernel) (by kernel_rfl) (by rfl) (by exact fun _ _ _ h => h) (by rfl) (by assumption) ?_); (try simp only [Act.put, List.setIfInBounds_toArray, List.set_cons_zero, List.set_cons_succ])))
    (first | ((refine takeH (i := 4) (v := ?_) (by decide +kernel) (by decide +kernel) (by kernel_rfl) (by rfl) (by exact fun _ _ _ h => h) (by rfl) ?_ (by assumption) ?_); rotate_left; (focus (intro w hSw; (try dsimp only at hSw); go_simp; (try with_reducible rfl); done)); (try simp only [Act.put, List.setIfInBounds_toArray, List.set_cons_zero, List.set_cons_succ])) | ((refine skipH (i := 4) (by decide +kernel) (by decide +kernel) (by kernel_rfl) (by rfl) (by exact fun _ _ _ h => h) (by rfl) (by assumption) ?_); (try simp only [Act.put, List.setIfInBounds_toArray, List.set_cons_zero, List.set_cons_succ])))
    (first | ((refine takeH (i := 5) (v := ?_) (by decide +kernel) (by decide +kernel) (by kernel_rfl) (by rfl) (by exact fun _ _ _ h => h) (by rfl) ?_ (by assumption) ?_); rotate_left; (focus (intro w hSw; (try dsimp only at hSw); go_simp; (try with_reducible rfl); done)); (try simp only [Act.put, List.setIfInBounds_toArray, List.set_cons_zero, List.set_cons_succ])) | ((refine skipH (i := 5) (by decide +kernel) (by decide +kernel) (by kernel_rfl) (by rfl) (by exact fun _ _ _ h => h) (by rfl) (by assumption) ?_); (try simp only [Act.put, List.setIfInBounds_toArray, List.set_cons_zero, List.set_cons_succ])))
    (first | ((refine takeH (i := 6) (v := ?_) (by decide +kernel) (by decide +kernel) (by kernel_rfl) (by rfl) (by exact fun _ _ _ h => h) (by rfl) ?_ (by assumption) ?_); rotate_left; (focus (intro w hSw; (try dsimp only at hSw); go_simp; (try with_reducible rfl); done)); (try simp only [Act.put, List.setIfInBounds_toArray, List.set_cons_zero, List.set_cons_succ])) | ((refine skipH (i := 6) (by decide +kernel) (by decide +kernel) (by kernel_rfl) (by rfl) (by exact fun _ _ _ h => h) (by rfl) (by assumption) ?_); (try simp only [Act.put, List.setIfInBounds_toArray, List.set_cons_zero, List.set_cons_succ])))
    (first | ((refine takeH (i := 7) (v := ?_) (by decide +kernel) (by decide +kernel) (by kernel_rfl) (by rfl) (by exact fun _ _ _ h => h) (by rfl) ?_ (by assumption) ?_); rotate_left; (focus (intro w hSw; (try dsimp only at hSw); go_simp; (try with_reducible rfl); done)); (try simp only [Act.put, List.setIfInBounds_toArray, List.set_cons_zero, List.set_cons_succ])) | ((refine skipH (i := 7) (by decide +kernel) (by decide +kernel) (by kernel_rfl) (by rfl) (by exact fun _ _ _ h => h) (by rfl) (by assumption) ?_); (try simp only [Act.put, List.setIfInBounds_toArray, List.set_cons_zero, List.set_cons_succ])))
    (first | ((refine takeH (i := 8) (v := ?_) (by decide +kernel) (by decide +kernel) (by kernel_rfl) (by rfl) (by exact fun _ _ _ h => h) (by rfl) ?_ (by assumption) ?_); rotate_left; (focus (intro w hSw; (try dsimp only at hSw); go_simp; (try with_reducible rfl); done)); (try simp only [Act.put, List.setIfInBounds_toArray, List.set_cons_zero, List.set_cons_succ])) | ((refine skipH (i := 8) (by decide +kernel) (by decide +kernel) (by kernel_rfl) (by rfl) (by exact fun _ _ _ h => h) (by rfl) (by assumption) ?_); (try simp only [Act.put, List.setIfInBounds_toArray, List.set_cons_zero, List.set_cons_succ])))
    (first | ((refine takeH (i := 9) (v := ?_) (by decide +kernel) (by decide +kernel) (by kernel_rfl) (by rfl) (by exact fun _ _ _ h => h) (by rfl) ?_ (by assumption) ?_); rotate_left; (focus (intro w hSw; (try dsimp only at hSw); go_simp; (try with_reducible rfl); done)); (try simp only [Act.put, List.setIfInBounds_toArray, List.set_cons_zero, List.set_cons_succ])) | ((refine skipH (i := 9) (by decide +kernel) (by decide +kernel) (by kernel_rfl) (by rfl) (by exact fun _ _ _ h => h) (by rfl) (by assumption) ?_); (try simp only [Act.put, List.setIfInBounds_toArray, List.set_cons_zero, List.set_cons_succ])))
    (first | ((refine takeH (i := 10) (v := ?_) (by decide +kernel) (by decide +kernel) (by kernel_rfl) (by rfl) (by exact fun _ _ _ h => h) (by rfl) ?_ (by assumption) ?_); rotate_left; (focus (intro w hSw; (try dsimp only at hSw); go_simp; (try with_reducible rfl); done)); (try simp only [Act.put, List.setIfInBounds_toArray, List.set_cons_zero, List.set_cons_succ])) | ((refine skipH (i := 10) (by decide +kernel) (by decide +kernel) (by kernel_rfl) (by rfl) (by exact fun _ _ _ h => h) (by rfl) (by assumption) ?_); (try simp only [Act.put, List.setIfInBounds_toArray, List.set_cons_zero, List.set_cons_succ])))
    (first | ((refine nextH (i := 11) (by decide +kernel) (by rfl) (by rfl) (fun K hK => ?_)); go_simp; (skip); (refine hK.out _ _ ?_ (fun hHeld' => ?_)); (focus ((try dsimp only); (first | done | (((intro b o h; rfl)); done)))); clear hK K hHeld; have hHeld := hHeld'; clear hHeld'; (try simp only [Act.put, List.setIfInBounds_toArray, List.set_cons_zero, List.set_cons_succ])) | ((refine skipH (i := 11) (by decide +kernel) (by decide +kernel) (by kernel_rfl) (by rfl) (by exact fun _ _ _ h => h) (by rfl) (by assumption) ?_); (try simp only [Act.put, List.setIfInBounds_toArray, List.set_cons_zero, List.set_cons_succ])))
    (first | ((refine takeH (i := 12) (v := ?_) (by decide +kernel) (by decide +kernel) (by kernel_rfl) (by rfl) (by exact fun _ _ _ h => h) (by rfl) ?_ (by assumption) ?_); rotate_left; (focus (intro w hSw; (try dsimp only at hSw); go_simp; (try with_reducible rfl); done)); (try simp only [Act.put, List.setIfInBounds_toArray, List.set_cons_zero, List.set_cons_succ])) | ((refine skipH (i := 12) (by decide +kernel) (by decide +kernel) (by kernel_rfl) (by rfl) (by exact fun _ _ _ h => h) (by rfl) (by assumption) ?_); (try simp only [Act.put, List.setIfInBounds_toArray, List.set_cons_zero, List.set_cons_succ])))
    refine wpAnyH_done (by decide +kernel) ?_ _
    have BF : Below w.heap.size w w2.drew := B2.drew
    go_wp2
    go_ret2
    have HF : slamO r p move = false := by rw [HSO.out]; simp [HS1.out]
    rw [HE.out, HF]
    exact ⟨rfl, BF⟩

set_option maxRecDepth 100000 in
set_option maxHeartbeats 8000000 in
theorem l11Why_c (rb ro pb po : Nat) (r : R) (p : P) (move c : Int) (hcd : (doneP r p move).code = c) (h0 : ¬ c = 0) (h1 : ¬ c = 1) (pa sa : Option Addr) (pc sc : Nat) (w : World) (hr : R.At w rb ro r) (hp : P.At w pb po p pa pc sa sc) (h : PRow w p pa sa) (m1 : p.pits.length ≤ 16777216) (m2 : p.stores.length ≤ 16777216) :
    Calls Try.prog 62 #[.pointer (some ⟨rb, ro, none⟩), .pointer (some ⟨pb, po, none⟩), .int .i64 move, .int .i64 c] w fun e w' => e = .returned (.string (whyT r p move c)) ∧ Below w.heap.size w w' := by
  have hrb : rb < w.heap.size := World.block_lt_of_cell? w _ hr.c0
  have hpb : pb < w.heap.size := World.block_lt_of_cell? w _ hp.c0
  have HM := Lib.hid (l05Move_c rb ro pb po r p move pa sa pc sc w hr hp h m1 m2)
  have HR := Lib.hid hr
  have HP := Lib.hid hp
  obtain ⟨y, hy⟩ : ∃ y, y = whyT r p move c := ⟨_, rfl⟩
  rw [← hy]
  have HY : Hid (y = if c = 2 then whyA else if c = 6 then whyB else if c = 10 then whyC else if slamO r p move = true then whyD else whyE) := hy
  have HD := Lib.hid (⟨hcd, h0, h1⟩ : _ ∧ _ ∧ _)
  clear hy hcd h0 h1 hr hp h
  go_enter Try.func62, Try.ntmps62
  by_cases g2 : c = 2
  · have e2 : (c == 2) = true := by simpa using g2
    have HE : Hid (y = whyA) := by unfold Hid; rw [HY.out, if_pos g2]
    clear g2
    go_wp2
    go_ret
    rw [HE.out]
    exact ⟨rfl, Below.refl _ _⟩
  have e2 : (c == 2) = false := by simpa using g2
  by_cases g6 : c = 6
  · have e6 : (c == 6) = true := by simpa using g6
    have HE : Hid (y = whyB) := by unfold Hid; rw [HY.out, if_neg g2, if_pos g6]
    clear g2 g6
    go_wp2
    go_ret
    rw [HE.out]
    exact ⟨rfl, Below.refl _ _⟩
  have e6 : (c == 6) = false := by simpa using g6
  by_cases g10 : c = 10
  · have e10 : (c == 10) = true := by simpa using g10
    have HE : Hid (y = whyC) := by unfold Hid; rw [HY.out, if_neg g2, if_neg g6, if_pos g10]
    clear g2 g6 g10
    go_wp2
    go_ret
    rw [HE.out]
    exact ⟨rfl, Below.refl _ _⟩
  have e10 : (c == 10) = false := by simpa using g10
  have HE : Hid (y = if slamO r p move = true then whyD else whyE) := by unfold Hid; rw [HY.out, if_neg g2, if_neg g6, if_neg g10]
  have H9 : Hid (codeP r p move = 0 ∧ ∃ L n, sowP r p.player (p.player * r.pits + move) p.pits p.stores = some (L, n)) := by
    obtain ⟨hcd, h0, h1⟩ := HD.out
    exact doneP_nine (by rw [hcd]; exact h0) (by rw [hcd]; exact h1) (by rw [hcd]; exact g2) (by rw [hcd]; exact g6) (by rw [hcd]; exact g10)
  clear g2 g6 g10
  go_wp2_with fail
  refine HM.out.mono ?_
  rintro e w1 (⟨k, hk, hor, rfl, hb1⟩ | ⟨L, n, qa, qc, ta, tc, xa, xc, hc0, ho, rfl, hpo, hx, hb1⟩)
  · exfalso
    obtain ⟨q1, L, n, q2⟩ := H9.out
    rcases hor with q3 | ⟨_, q3, _⟩
    · omega
    · rw [q2] at q3; cases q3
  obtain ⟨hok, hbd, ⟨pn, hpn, hpn1⟩, t, hB, ht1, hpl⟩ := sowP_brd hc0 ho
  have F1 := (((Fr.start w).step hb1).pos hpo).alloc (snC L.pits L.stores L.last n qa qc ta tc) 84
  have hSA : SnA _ w1.heap.size 0 L.pits L.stores L.last n qa qc ta tc := ⟨F1.at 0 rfl 0 _ rfl, F1.at 0 rfl 1 _ rfl, F1.at 0 rfl 2 _ rfl, F1.at 0 rfl 3 _ rfl⟩
  have BW := F1.below
  have HSLM := Lib.hid (l06Slam_c rb ro w1.heap.size 0 r hbd pn hpn1 L.pits L.stores L.last n qa ta qc tc _ (HR.out.below BW hrb) hSA (F1.at 1 rfl).1.row.pits hB.lp hpl (hB.allIn ht1))
  rw [← hpn] at HSLM
  obtain ⟨sv, hsv⟩ : ∃ sv, sv = slamP r p.player L.pits L.last := ⟨_, rfl⟩
  rw [← hsv] at HSLM
  have HSO : Hid (slamO r p move = (decide (r.slam = 1) && sv)) := by unfold Hid slamO; rw [ho, hsv]
  have c8 : w1.cell? ⟨rb, ro + 8, none⟩ = some (.int .i64 r.slam) := (hb1.cell (show (Addr.mk rb (ro + 8) none).block < _ from hrb)).trans HR.out.c8
  have d2 : w1.cell? ⟨pb, po + 2, none⟩ = some (.int .i64 p.player) := (hb1.cell (show (Addr.mk pb (po + 2) none).block < _ from hpb)).trans HP.out.c2
  have hrb1 : rb < w1.heap.size := Nat.lt_of_lt_of_le hrb hb1.size
  have hpb1 : pb < w1.heap.size := Nat.lt_of_lt_of_le hpb hb1.size
  have HBW := Lib.hid BW
  clear hpo hx hc0 ho hpn hpn1 hB hpl hsv F1 hSA BW hok hb1 HM
  by_cases hs1 : r.slam = 1
  · have f1 : (r.slam == 1) = true := by simpa using hs1
    have HS1 := Lib.hid hs1
    clear hs1
    cases sv
    · go_wp2_with fail
      refine HSLM.out.mono ?_
      rintro e w2 ⟨rfl, hb2⟩
      have BF : Below w.heap.size w w2 := below_next HBW.out hb2
      go_wp2
      go_ret
      rw [HE.out, HSO.out, HS1.out]
      exact ⟨rfl, BF⟩
    · go_wp2_with fail
      refine HSLM.out.mono ?_
      rintro e w2 ⟨rfl, hb2⟩
      have BF : Below w.heap.size w w2 := below_next HBW.out hb2
      go_wp2
      go_ret
      rw [HE.out, HSO.out, HS1.out]
      exact ⟨rfl, BF⟩
  · have f1 : (r.slam == 1) = false := by simpa using hs1
    have HS1 := Lib.hid hs1
    clear hs1
    go_wp2
    go_ret
    have HF : slamO r p move = false := by rw [HSO.out]; simp [HS1.out]
    rw [HE.out, HF]
    exact ⟨rfl, HBW.out⟩

set_option maxRecDepth 100000 in
set_option maxHeartbeats 8000000 in
theorem sWhyNot_c (r : R) (p : P) (move : Int) (pa sa : Option Addr) (pc sc : Nat) (w : World) (h : PRow w p pa sa) (m1 : p.pits.length ≤ 16777216) (m2 : p.stores.length ≤ 16777216) :
    Calls Try.prog 16 #[r.val, p.val pa pc sa sc, .int .i64 move] w fun e w' => e = .returned (.tuple #[.string (whyP r p move).1, .int .i64 (whyP r p move).2]) ∧ Below w.heap.size w w' := by
  have F0 := ((Fr.start w).alloc r.cells 30).alloc (p.cells pa pc sa sc) 32
  obtain ⟨c, hcd⟩ : ∃ c, (doneP r p move).code = c := ⟨_, rfl⟩
  have HC := Lib.hid (fun W (H : PRow W p pa sa) => sMoveFault_c r p move pa sa pc sc W H m1 m2)
  rw [hcd] at HC
  obtain ⟨y, hy⟩ : ∃ y, y = whyP r p move := ⟨_, rfl⟩
  rw [← hy]
  have HY : Hid (y = if c = 0 then (⟨#[]⟩, 3) else if c = 1 then (⟨#[]⟩, 1) else (whyT r p move c, 0)) := by unfold Hid; rw [hy, whyP, hcd]
  have HD := Lib.hid hcd
  clear hy hcd
  go_enter Try.func16, Try.ntmps16
  go_wp2_with fail
  refine (HC.out _ (h.below F0.below (Nat.le_refl _))).mono ?_
  rintro e w1 ⟨rfl, hb1⟩
  have F1 := F0.step hb1
  clear hb1 F0 HC
  by_cases g1 : c = 1
  · have e1 : (c == 1) = true := by simpa using g1
    have HE : Hid (y = (⟨#[]⟩, c)) := by unfold Hid; rw [HY.out, if_neg (by omega), if_pos g1, g1]
    clear g1
    go_wp2
    go_ret2
    rw [HE.out]
    exact ⟨rfl, F1.below⟩
  have e1 : (c == 1) = false := by simpa using g1
  by_cases g0 : c = 0
  · have e0 : (c == 0) = true := by simpa using g0
    have HE : Hid (y = (⟨#[]⟩, 3)) := by unfold Hid; rw [HY.out, if_pos g0]
    clear g0 g1
    go_wp2
    go_ret2
    rw [HE.out]
    exact ⟨rfl, F1.below⟩
  have e0 : (c == 0) = false := by simpa using g0
  have HE : Hid (y = (whyT r p move c, 0)) := by unfold Hid; rw [HY.out, if_neg g0, if_neg g1]
  have hr := R.boxc (F1.at 1 rfl)
  have hp : P.At w1 (w.alloc (.cells r.cells 30)).heap.size 0 p pa pc sa sc := ⟨F1.at 0 rfl 0 _ rfl, F1.at 0 rfl 1 _ rfl, F1.at 0 rfl 2 _ rfl⟩
  simp only [World.size_alloc] at hp
  have HWH := Lib.hid (l11Why_c _ _ _ _ r p move c HD.out g0 g1 pa sa pc sc _ hr hp (h.below F1.below (Nat.le_refl _)) m1 m2)
  clear g0 g1 hr hp
  go_wp2_with fail
  refine HWH.out.mono ?_
  rintro e w2 ⟨rfl, hb2⟩
  have F2 := F1.step hb2
  clear hb2 F1 HWH
  go_wp2
  go_ret2
  rw [HE.out]
  exact ⟨rfl, F2.below⟩

end Go.Proofs.Ytmadcifcbckcnaa
