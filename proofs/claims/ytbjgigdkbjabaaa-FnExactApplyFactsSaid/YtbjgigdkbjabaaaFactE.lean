/- FactE: the facts of a move, done: the reference's ApplyFacts. The contract holds for every argument, under the premises that it states. -/
import Derived.Test.YtbjgigdkbjabaaaFactD
namespace Go.Proofs.Ytbjgigdkbjabaaa
set_option linter.unusedSimpArgs false
set_option linter.unusedVariables false
set_option linter.unnecessarySimpa false
open Go.RowKit Go.ChangeShapes Go.WideShapes Go.ChangeAt Go.Joins

/-- the position at hand, in box B, and its rows elsewhere -/
structure NwP (base : Nat) (w : World) (B : Nat) (q : P) (A : A2) : Prop where
  c0 : w.cell? ⟨B, 0, none⟩ = some (.slice A.pa q.pits.length A.pc)
  c1 : w.cell? ⟨B, 1, none⟩ = some (.slice A.sa q.stores.length A.sc)
  c2 : w.cell? ⟨B, 2, none⟩ = some (.int .i64 q.player)
  fz : ∀ o, w.frozen? ⟨B, o, none⟩ = false
  ow : POwn w base q A.pa A.pc A.sa A.sc
  n1 : (Value.slice A.pa q.pits.length A.pc).ownBlock ≠ some B
  n2 : (Value.slice A.sa q.stores.length A.sc).ownBlock ≠ some B
  nb : base ≤ B
theorem NwP.lt {base : Nat} {w : World} {B : Nat} {q : P} {A : A2} (h : NwP base w B q A) : B < w.heap.size := World.block_lt_of_cell? w _ h.c0
theorem NwP.below {base : Nat} {w w' : World} {B : Nat} {q : P} {A : A2} (h : NwP base w B q A) (hb : Below w.heap.size w w') : NwP base w' B q A :=
  ⟨(hb.cell (show (Addr.mk B 0 none).block < _ from h.lt)).trans h.c0, (hb.cell (show (Addr.mk B 1 none).block < _ from h.lt)).trans h.c1, (hb.cell (show (Addr.mk B 2 none).block < _ from h.lt)).trans h.c2, fun o => (hb.frozen (show (Addr.mk B o none).block < _ from h.lt)).trans (h.fz o), h.ow.below hb (Nat.le_refl _), h.n1, h.n2, h.nb⟩
theorem NwP.store {base base' : Nat} {w : World} {B : Nat} {q y : P} {A E : A2} (h : NwP base w B q A) (ho : POwn w base' y E.pa E.pc E.sa E.sc) (hb : B < base') :
    NwP base (((w.setCell ⟨B, 0, none⟩ (.slice E.pa y.pits.length E.pc)).setCell ⟨B, 1, none⟩ (.slice E.sa y.stores.length E.sc)).setCell ⟨B, 2, none⟩ (.int .i64 y.player)) B y E := by
  have e1 : (Value.slice E.pa y.pits.length E.pc).ownBlock ≠ some B := fun e => by have := (ho.pits.lt B e).1; omega
  have e2 : (Value.slice E.sa y.stores.length E.sc).ownBlock ≠ some B := fun e => by have := (ho.stores.lt B e).1; omega
  have hbb := h.nb
  refine ⟨?_, ?_, ?_, fun o => by simp [h.fz], ⟨?_, ?_, ho.apart⟩, e1, e2, h.nb⟩
  · rw [cell_off (by omega), cell_off (by omega)]; exact World.cell?_setCell_same _ _ _ h.c0
  · rw [cell_off (by omega)]; refine World.cell?_setCell_same _ _ (u := .slice A.sa q.stores.length A.sc) _ ?_; rw [cell_off (by omega)]; exact h.c1
  · refine World.cell?_setCell_same _ _ (u := .int .i64 q.player) _ ?_; rw [cell_off (by omega), cell_off (by omega)]; exact h.c2
  · exact ownsRow_setCell_other (ownsRow_setCell_other (ownsRow_setCell_other (ownsRow_le ho.pits (by omega)) e1 _) e1 _) e1 _
  · exact ownsRow_setCell_other (ownsRow_setCell_other (ownsRow_setCell_other (ownsRow_le ho.stores (by omega)) e2 _) e2 _) e2 _
theorem NwP.start {w1 : World} {lo base : Nat} {p : P} {pa sa : Option Addr} {pc sc : Nat} (h : POwn w1 lo p pa pc sa sc) (hl : base ≤ lo) (h1 : lo ≤ w1.heap.size) (e : TypeId) :
    NwP base (w1.alloc (.cells #[.slice pa p.pits.length pc, .slice sa p.stores.length sc, .int .i64 p.player] e)) w1.heap.size p ⟨pa, pc, sa, sc⟩ := by
  have hb : Below w1.heap.size w1 (w1.alloc (.cells #[.slice pa p.pits.length pc, .slice sa p.stores.length sc, .int .i64 p.player] e)) := below_alloc1 _ _
  have F := (Fr.start w1).allocF #[.slice pa p.pits.length pc, .slice sa p.stores.length sc, .int .i64 p.player] e
  obtain ⟨bx, bf⟩ := F.at 0 rfl
  have h2 := h.below hb (Nat.le_refl _)
  exact ⟨bx 0 _ rfl, bx 1 _ rfl, bx 2 _ rfl, bf, ⟨ownsRow_le h2.pits hl, ownsRow_le h2.stores hl, h2.apart⟩, fun e => by have := (h.pits.lt _ e).2; omega, fun e => by have := (h.stores.lt _ e).2; omega, by omega⟩
/-- a round of the replay -/
structure AsSt (w0 wr : World) (ls : List Res) (r : R) (fs : List Fc) (G : Option (P × Int)) (base B k : Nat) (q : P) (n : Int) (A : A2) : Prop where
  kl : k ≤ fs.length
  go : goF r (fs.drop k) (q, n) = G
  ai : AI r (96 * (k + 1)) (q, n)
  nw : NwP base wr B q A
  fr : Fr w0 wr ls

set_option maxRecDepth 100000 in
set_option maxHeartbeats 16000000 in
theorem sApplyFacts_c (r : R) (p : P) (pa sa : Option Addr) (pc sc : Nat) (fa : Option Addr) (fc : Nat) (fs : List Fc) (w : World) (h : PRow w p pa sa) (m1 : p.pits.length ≤ 16777216) (m2 : p.stores.length ≤ 16777216)
    (hf : Row w fa (flat fcRL.f fs)) (hfm : fs.length ≤ maxLen) :
    Calls Try.prog 12 #[r.val, p.val pa pc sa sc, .slice fa fs.length fc] w (PvRes w (applyP r p fs)) := by
  have F0 := (((Fr.start w).alloc r.cells 33).alloc (p.cells pa pc sa sc) 30).allocF #[.slice none 0 0, .slice none 0 0, .int .i64 0] 30
  simp only [World.size_alloc] at F0
  have HP := Lib.hid (h.below F0.below (Nat.le_refl _))
  have HFS := Lib.hid hf
  have hr := R.boxc (F0.at 2 rfl)
  have hp : P.At _ (w.heap.size + 1) 0 p pa pc sa sc := ⟨F0.at 1 rfl 0 _ rfl, F0.at 1 rfl 1 _ rfl, F0.at 1 rfl 2 _ rfl⟩
  have HV := Lib.hid (l04Ok_c _ _ _ _ r p pa sa pc sc _ hr hp HP.out m1 m2)
  obtain ⟨Y, hY⟩ : ∃ Y, Y = applyP r p fs := ⟨_, rfl⟩
  rw [← hY]
  clear hr hp
  cases hok : p.ok r
  · have HE : Hid (Y = (⟨[], [], 0⟩, 1)) := by unfold Hid; rw [hY, applyP, hok]; rfl
    rw [hok] at HV
    clear hok h hY hf
    go_enter Try.func12, Try.ntmps12
    go_wp2_with fail
    refine HV.out.mono ?_
    rintro e wv ⟨rfl, m, hbv⟩
    have F0 := F0.step (show Below _ _ wv from hbv ▸ below_draws _ _ m)
    clear hbv
    obtain ⟨bx, bf⟩ := F0.at 0 rfl
    obtain ⟨x0, x1, x2⟩ := (⟨bx 0 _ rfl, bx 1 _ rfl, bx 2 _ rfl⟩ : _ ∧ _ ∧ _)
    have zC : w.heap.size + 1 + 1 < wv.heap.size := F0.le 0 rfl
    have B1 := F0.below
    clear bx F0
    go_wp2
    refine bodyPost_ret (v := .tuple #[P.val ⟨[], [], 0⟩ none 0 none 0, .int .i64 1]) (by simp [results, Try.results12, go_sem, x0, x1, x2, bf, zC, P.val, P.cells]) rfl ?_
    rw [HE.out]
    refine ⟨⟨none, 0, none, 0⟩, rfl, ⟨World.ownsRow_nil _ _ _ _, World.ownsRow_nil _ _ _ _, .inl rfl⟩, ?_⟩
    repeat (first | (with_reducible exact B1) | ((with_reducible refine Below.setCell ?_ ?_ _); rotate_left; (simp <;> omega)) | (with_reducible refine Below.drew ?_))
  rw [hok] at HV
  have HE : Hid (Y = if fs.length > 3000 then ((⟨[], [], 0⟩, 5) : P × Int) else endF (goF r fs (p, 0))) := hY.trans (applyP_eq hok)
  have HAI := Lib.hid (ai_start hok)
  have HPW := Lib.hid h
  clear hok h hY hf
  go_enter Try.func12, Try.ntmps12
  go_wp2_with fail
  refine HV.out.mono ?_
  rintro e wv ⟨rfl, m, hbv⟩
  have F1 := F0.step (show Below _ _ wv from hbv ▸ below_draws _ _ m)
  have HPV := Lib.hid (HPW.out.below F1.below (Nat.le_refl _))
  obtain ⟨bx, bf⟩ := F1.at 0 rfl
  obtain ⟨x0, x1, x2⟩ := (⟨bx 0 _ rfl, bx 1 _ rfl, bx 2 _ rfl⟩ : _ ∧ _ ∧ _)
  have HPP : Hid (P.At wv (w.heap.size + 1) 0 p pa pc sa sc) := ⟨F1.at 1 rfl 0 _ rfl, F1.at 1 rfl 1 _ rfl, F1.at 1 rfl 2 _ rfl⟩
  have zC : w.heap.size + 1 + 1 < wv.heap.size := F1.le 0 rfl
  clear hbv bx F0
  by_cases hl : fs.length > 3000
  · have hl' : (fs.length : Int) > 3000 := by omega
    have HE2 := Lib.hid (HE.out.trans (if_pos hl))
    have B1 := F1.below
    clear hl F1
    go_wp2
    refine bodyPost_ret (v := .tuple #[P.val ⟨[], [], 0⟩ none 0 none 0, .int .i64 5]) (by simp [results, Try.results12, go_sem, x0, x1, x2, bf, zC, P.val, P.cells]) rfl ?_
    rw [HE2.out]
    refine ⟨⟨none, 0, none, 0⟩, rfl, ⟨World.ownsRow_nil _ _ _ _, World.ownsRow_nil _ _ _ _, .inl rfl⟩, ?_⟩
    repeat (first | (with_reducible exact B1) | ((with_reducible refine Below.setCell ?_ ?_ _); rotate_left; (simp <;> omega)) | (with_reducible refine Below.drew ?_))
  have hl' : ¬ (fs.length : Int) > 3000 := by omega
  have HE2 := Lib.hid (HE.out.trans (if_neg hl))
  have hlN : fs.length ≤ 3000 := by omega
  clear hl HE
  go_wp2_with fail
  refine (l04Own_c _ _ p pa sa pc sc _ HPP.out HPV.out m1 m2).mono ?_
  rintro e w1 ⟨pa1, pc1, sa1, sc1, rfl, ho, hb1⟩
  have HO := Lib.hid ho
  have F2 := F1.step hb1
  have zV : wv.heap.size ≤ w1.heap.size := hb1.size
  clear ho hb1 F1 x0 x1 x2 bf HPP
  have hb0 : w.heap.size + 1 + 1 + 1 ≤ wv.heap.size := zC
  have zD : w.heap.size + 1 + 1 < w1.heap.size := F2.le 0 rfl
  have HA0 := Lib.hid (NwP.start (base := w.heap.size + 1 + 1 + 1) HO.out hb0 zV 30)
  have F3 := F2.step (below_alloc1 w1 (.cells #[.slice pa1 p.pits.length pc1, .slice sa1 p.stores.length sc1, .int .i64 p.player] 30))
  obtain ⟨B, hB⟩ : ∃ B, B = w1.heap.size := ⟨_, rfl⟩
  obtain ⟨W0, hW0⟩ : ∃ W, W = (w1.alloc (.cells #[.slice pa1 p.pits.length pc1, .slice sa1 p.stores.length sc1, .int .i64 p.player] 30)) := ⟨_, rfl⟩
  obtain ⟨G, hG⟩ : ∃ G, G = goF r fs (p, 0) := ⟨_, rfl⟩
  rw [← hB, ← hW0] at HA0
  rw [← hW0] at F3
  rw [← hG] at HE2
  have HS0 : Hid (AsSt w W0 _ r fs G (w.heap.size + 1 + 1 + 1) B 0 p 0 ⟨pa1, pc1, sa1, sc1⟩) := ⟨Nat.zero_le _, by rw [hG]; rfl, HAI.out, HA0.out, F3⟩
  clear HO hb0 zV zD HA0 F2 F3 hG HAI HPV m1 m2 HP
  go_wp2
  rw [← hW0]
  simp only [← hB]
  clear hW0 hB
  go_loopw [9, 10] (fun hh i wr => ∃ (k : Nat) (q : P) (n : Int) (A : A2), hh = .int .i64 n ∧ i = .int .i64 k ∧ AsSt w wr _ r fs G (w.heap.size + 1 + 1 + 1) B k q n A) (fun _ i _ => fs.length - (intOf i).toNat)
  case atStart => exact ⟨0, p, 0, ⟨pa1, pc1, sa1, sc1⟩, rfl, rfl, HS0.out⟩
  case round =>
    clear HS0
    obtain ⟨k, q, n, A, rfl, rfl, hst⟩ := hrel
    have HST := Lib.hid hst
    have hkl := hst.kl
    obtain ⟨bx, bf⟩ := hst.fr.at 0 rfl
    obtain ⟨x0, x1, x2⟩ := (⟨bx 0 _ rfl, bx 1 _ rfl, bx 2 _ rfl⟩ : _ ∧ _ ∧ _)
    have zD : w.heap.size + 1 + 1 < wr.heap.size := hst.fr.le 0 rfl
    clear hst bx
    by_cases hk : k < fs.length
    case neg =>
      have hkI : ¬ (k : Int) < (fs.length : Int) := by omega
      have HG : Hid (G = some (q, n)) := by
        have h1 := HST.out.go
        rw [List.drop_eq_nil_of_le (by omega)] at h1
        exact h1.symm
      have a0 := HST.out.nw.c0
      have a1 := HST.out.nw.c1
      have a2 := HST.out.nw.c2
      have q1 : ¬ w.heap.size + 1 + 1 = B := by have := HST.out.nw.nb; omega
      by_cases hz : n = 0
      · have HE3 : Hid (Y = (q, 0)) := by unfold Hid; rw [HE2.out, HG.out, endF, if_pos hz]
        have hz' : (n != 0) = false := by simpa using hz
        have hz2 : (n == 0) = true := by simpa using hz
        clear hz
        go_wp2
        refine bodyPost_ret (v := .tuple #[P.val q A.pa A.pc A.sa A.sc, .int .i64 0]) (by simp [results, Try.results12, go_sem, x0, x1, x2, bf, zD, P.val, P.cells]) rfl ?_
        rw [HE3.out]
        refine ⟨A, rfl, ?_, ?_⟩
        · have k0 := HST.out.nw.ow
          refine ⟨?_, ?_, k0.apart⟩
          · have k1 := k0.pits
            refine ownsRow_le (base := w.heap.size + 1 + 1 + 1) ?_ (by omega)
            repeat (first | (with_reducible exact k1) | ((with_reducible refine ownsRow_setCell_below ?_ ?_ _); rotate_left; (simp <;> omega)))
          · have k1 := k0.stores
            refine ownsRow_le (base := w.heap.size + 1 + 1 + 1) ?_ (by omega)
            repeat (first | (with_reducible exact k1) | ((with_reducible refine ownsRow_setCell_below ?_ ?_ _); rotate_left; (simp <;> omega)))
        · have B1 := HST.out.fr.below
          repeat (first | (with_reducible exact B1) | ((with_reducible refine Below.setCell ?_ ?_ _); rotate_left; (simp <;> omega)))
      · have HE3 : Hid (Y = (⟨[], [], 0⟩, 6)) := by unfold Hid; rw [HE2.out, HG.out, endF, if_neg hz]
        have hz' : (n != 0) = true := by simpa using hz
        have hz2 : (n == 0) = false := by simpa using hz
        clear hz a0 a1 a2
        go_wp2
        refine bodyPost_ret (v := .tuple #[P.val ⟨[], [], 0⟩ none 0 none 0, .int .i64 6]) (by simp [results, Try.results12, go_sem, x0, x1, x2, bf, zD, P.val, P.cells]) rfl ?_
        rw [HE3.out]
        refine ⟨⟨none, 0, none, 0⟩, rfl, ⟨World.ownsRow_nil _ _ _ _, World.ownsRow_nil _ _ _ _, .inl rfl⟩, ?_⟩
        have B1 := HST.out.fr.below
        repeat (first | (with_reducible exact B1) | ((with_reducible refine Below.setCell ?_ ?_ _); rotate_left; (simp <;> omega)))
    have hkI : (k : Int) < (fs.length : Int) := by omega
    obtain ⟨f, hf⟩ : ∃ f, f = fs[k] := ⟨_, rfl⟩
    obtain ⟨fb, fo, hfa, hfb, e0, e1, e2⟩ := fc_at (HFS.out.below HST.out.fr.below (Nat.le_refl _)) (show fs[k]? = some f by rw [hf]; simp [hk])
    subst hfa
    have HGO : Hid (G = match stepF r (q, n) f with | none => none | some s' => goF r (fs.drop (k + 1)) s') := by
      have h1 := HST.out.go
      rw [List.drop_eq_getElem_cons hk, ← hf] at h1
      exact h1.symm
    have hAT : 96 * ((k : Int) + 1) ≤ 1000000 := by omega
    have hAL := HST.out.ai
    have HNX := Lib.hid (fun s' (h : stepF r (q, n) f = some s') => stepF_ai hAL h)
    have HCX := Lib.hid (l11Step_c w.heap.size 0 B 0 r q n f _ A.pa A.sa A.pc A.sc wr (R.boxc (HST.out.fr.at 2 rfl)) ⟨HST.out.nw.c0, HST.out.nw.c1, HST.out.nw.c2⟩ HST.out.nw.ow.row hAL hAT)
    have zE : w.heap.size < wr.heap.size := by omega
    have zF : w.heap.size + 1 < wr.heap.size := by omega
    have zB := HST.out.nw.lt
    clear hf hAL hAT
    go_wp2_with fail
    refine HCX.out.mono ?_
    rintro e w2 ⟨hb2, hres⟩
    have F2 := HST.out.fr.step hb2
    have N2 := HST.out.nw.below hb2
    obtain ⟨bx, bf⟩ := F2.at 0 rfl
    obtain ⟨x0, x1, x2⟩ := (⟨bx 0 _ rfl, bx 1 _ rfl, bx 2 _ rfl⟩ : _ ∧ _ ∧ _)
    have zD : w.heap.size + 1 + 1 < w2.heap.size := F2.le 0 rfl
    have zB2 : B < w2.heap.size := N2.lt
    obtain ⟨a0, a1, a2⟩ := (⟨N2.c0, N2.c1, N2.c2⟩ : _ ∧ _ ∧ _)
    have af := N2.fz
    have nb := N2.nb
    have HF := Lib.hid F2
    have HN := Lib.hid N2
    clear hb2 F2 N2 HCX bx
    rcases hres with ⟨hs, q2, A2', n2, rfl⟩ | ⟨q2, A2', n2, hs, rfl, ho2⟩
    · have HE3 : Hid (Y = (⟨[], [], 0⟩, 6)) := by unfold Hid; rw [HE2.out, HGO.out, hs]; rfl
      clear hs
      go_wp2
      refine bodyPost_ret (v := .tuple #[P.val ⟨[], [], 0⟩ none 0 none 0, .int .i64 6]) (by simp [results, Try.results12, go_sem, x0, x1, x2, bf, zD, P.val, P.cells]) rfl ?_
      rw [HE3.out]
      refine ⟨⟨none, 0, none, 0⟩, rfl, ⟨World.ownsRow_nil _ _ _ _, World.ownsRow_nil _ _ _ _, .inl rfl⟩, ?_⟩
      have B1 := HF.out.below
      repeat (first | (with_reducible exact B1) | ((with_reducible refine Below.setCell ?_ ?_ _); rotate_left; (simp <;> omega)) | ((with_reducible refine Below.alloc ?_ ?_ _); rotate_left; (first | omega | (simp <;> omega))))
    · have HG2 : Hid (goF r (fs.drop (k + 1)) (q2, n2) = G) := by
        have h1 := HGO.out
        rw [hs] at h1
        exact h1.symm
      have HA2 := Lib.hid (HNX.out (q2, n2) hs)
      have HA3 : Hid (AI r (96 * (((k + 1 : Nat) : Int) + 1)) (q2, n2)) := by
        have h1 := HA2.out
        have e : 96 * ((k : Int) + 1) + 96 = 96 * (((k + 1 : Nat) : Int) + 1) := by omega
        rw [e] at h1
        exact h1
      have HOW := Lib.hid ho2
      have hBr : B < wr.heap.size := zB
      clear hs ho2 HGO HNX
      go_wp2
      go_roundw
      case rel =>
        have N4 := (HN.out.store HOW.out hBr).below (below_alloc1 _ (.cells #[.slice A2'.pa q2.pits.length A2'.pc, .slice A2'.sa q2.stores.length A2'.sc, .int .i64 q2.player] 30))
        have B9 : Below (w.heap.size + 1 + 1 + 1) w2 (((w2.setCell ⟨B, 0, none⟩ (.slice A2'.pa q2.pits.length A2'.pc)).setCell ⟨B, 1, none⟩ (.slice A2'.sa q2.stores.length A2'.sc)).setCell ⟨B, 2, none⟩ (.int .i64 q2.player)) := by
          refine Below.setCell (Below.setCell (Below.setCell (Below.refl _ _) ?_ _) ?_ _) ?_ _ <;> exact nb
        have F4 := (HF.out.low B9 (by omega) (by simp <;> omega)).step (below_alloc1 _ (.cells #[.slice A2'.pa q2.pits.length A2'.pc, .slice A2'.sa q2.stores.length A2'.sc, .int .i64 q2.player] 30))
        exact ⟨k + 1, q2, n2, A2', rfl, by go_num, by omega, HG2.out, HA3.out, N4, F4⟩
      case measure => (simp [intOf]; omega)

end Go.Proofs.Ytbjgigdkbjabaaa
