/- Res: the results of all legal moves: the program's function. The contract holds for every argument, under the premises that it states. -/
import Derived.Test.YtbjgigdkbjabaaaMf
import Derived.Deep.AppendLies
import Derived.Deep.RegionHeld3
namespace Go.Proofs.Ytbjgigdkbjabaaa
set_option linter.unusedSimpArgs false
set_option linter.unusedVariables false
set_option linter.unnecessarySimpa false
open Go.RowKit Go.ChangeShapes Go.WideShapes Go.ChangeAt Go.Joins

/-- a round over the moves -/
structure RsSt (w wr : World) (rc pcs : List Value) (r : R) (p : P) (j : Nat) (ad : Option Addr) (c hi : Nat) (l : List (Mk × MA)) : Prop where
  jl : (j : Int) ≤ r.pits
  go : l.map Prod.fst = allGo r p j
  lh : w.heap.size + 1 + 1 ≤ hi
  fr : Fr w wr [⟨w.heap.size + 1 + 1, hi, MksP (w.heap.size + 1 + 1) hi ad c l⟩, ⟨w.heap.size + 1, w.heap.size + 1 + 1, BoxP (w.heap.size + 1) pcs⟩, ⟨w.heap.size, w.heap.size + 1, BoxP w.heap.size rc⟩]

set_option maxRecDepth 100000 in
set_option maxHeartbeats 16000000 in
theorem results_c (r : R) (p : P) (hok : p.ok r = true) (pa sa : Option Addr) (pc sc : Nat) (w : World) (h : PRow w p pa sa) (m1 : p.pits.length ≤ 16777216) (m2 : p.stores.length ≤ 16777216) (hc : p.pits.length ≤ pc) (hcm : pc ≤ maxLen) :
    Calls Try.prog 158 #[r.val, p.val pa pc sa sc] w (MksRes w (allP r p)) := by
  obtain ⟨i0, hi, hz0, hz1, hz2⟩ := info_parts6 infoM
  obtain ⟨hbd, ⟨pn, hpn, hpn1⟩, t, hB, ht0, ht1⟩ := P.ok_parts hok
  have hlo := hbd.lo
  have hhi := hbd.hi
  have F0 := ((Fr.start w).alloc r.cells 33).alloc (p.cells pa pc sa sc) 30
  have M0 := mks_none ((w.alloc (.cells r.cells 33)).alloc (.cells (p.cells pa pc sa sc) 30)) (w.heap.size + 1 + 1) (by simp)
  have F1 := (F0.step (below_alloc1 _ (.cells #[] 144))).mks M0
  simp only [World.size_alloc] at F1
  have hST : Hid (RsSt w (((w.alloc (.cells r.cells 33)).alloc (.cells (p.cells pa pc sa sc) 30)).alloc (.cells #[] 144)) r.cells.toList (p.cells pa pc sa sc).toList r p 0 (some ⟨w.heap.size + 1 + 1, 0, none⟩) 0 (w.heap.size + 1 + 1 + 1) []) :=
    ⟨by omega, by simp [allGo], by omega, F1⟩
  have HC := Lib.hid (fun m W (H : PRow W p pa sa) => done_c r p m pa sa pc sc W H m1 m2 hc hcm)
  have HPN := Lib.hid (⟨hpn, hpn1⟩ : _ ∧ _)
  obtain ⟨K, hK⟩ : ∃ K : Nat, K = r.pits.toNat := ⟨_, rfl⟩
  have hKr : r.pits = (K : Int) := by omega
  have HK := Lib.hid hK
  have HKR := Lib.hid hKr
  have HA : Hid (allP r p = allGo r p K) := by unfold Hid allP; rw [HK.out]
  have HH := Lib.hid h
  have HB := Lib.hid hB
  clear F0 M0 F1 hK hKr h hB hpn
  go_enter Try.func158, Try.ntmps158
  go_wp2_with fail
  go_loopw [5, 14] (fun o i wr => ∃ (j : Nat) (ad : Option Addr) (c hi : Nat) (l : List (Mk × MA)), i = .int .i64 (j : Int) ∧ o = .slice ad l.length c ∧ RsSt w wr r.cells.toList (p.cells pa pc sa sc).toList r p j ad c hi l) (fun _ i _ => K - (intOf i).toNat)
  case atStart => exact ⟨0, _, 0, _, [], rfl, rfl, hST.out⟩
  case round =>
    clear hST
    obtain ⟨j, ad, c, hi', l, rfl, rfl, hst⟩ := hrel
    have F := hst.fr
    have hjl := hst.jl
    have hgo := hst.go
    have hlh := hst.lh
    obtain ⟨c0, c1, c2, c3, c4, c5, c6, c7, c8⟩ := R.boxc (F.at 2 rfl)
    obtain ⟨d0, d1, d2⟩ := P.boxc (F.at 1 rfl)
    have zA : w.heap.size < wr.heap.size := F.le 2 rfl
    have zB : w.heap.size + 1 < wr.heap.size := F.le 1 rfl
    have HGO := Lib.hid hgo
    clear hst hgo
    by_cases hj : (j : Int) < r.pits
    case neg =>
      have HE : Hid (j = K) := by have := HKR.out; unfold Hid; omega
      go_wp2
      go_ret
      refine ⟨l, ad, c, ?_, rfl, (F.at 0 rfl).1.le (by omega), F.below⟩
      rw [HA.out, HGO.out, HE.out]
    obtain ⟨d, hd⟩ : ∃ d, d = doneP r p (j : Int) := ⟨_, rfl⟩
    have HD := Lib.hid hd
    have HCJ := Lib.hid (HC.out (j : Int) wr (HH.out.below F.below (Nat.le_refl _)))
    rw [← hd] at HCJ
    clear hd
    go_wp2_with fail
    refine HCJ.out.mono ?_
    rintro e w2 ⟨ua, uc, va, vc, rfl, ho, hb2⟩
    have F2 := F.step hb2
    have hs2 := hb2.size
    obtain ⟨c0, c1, c2, c3, c4, c5, c6, c7, c8⟩ := R.boxc (F2.at 2 rfl)
    obtain ⟨d0, d1, d2⟩ := P.boxc (F2.at 1 rfl)
    have zA2 : w.heap.size < w2.heap.size := F2.le 2 rfl
    have zB2 : w.heap.size + 1 < w2.heap.size := F2.le 1 rfl
    have hhi' : hi' ≤ wr.heap.size := F.le 0 rfl
    clear hb2 HCJ
    by_cases hcz : d.code = 0
    case neg =>
      have hcz' : (d.code != 0) = true := by simpa using hcz
      have HG : Hid (allGo r p (j + 1) = allGo r p j) := allGo_bad (by rw [makeP_code, ← HD.out]; exact hcz)
      have F3 := F2.step (below_alloc1 w2 (.cells (snC d.pits d.stores d.last d.laps ua uc va vc) 148))
      clear hcz F c0 c1 c2 c3 c4 c5 c6 c7 c8 d0 d1 d2
      go_wp2
      go_roundw
      case rel =>
        (repeat apply Exists.intro)
        exact ⟨⟨j + 1, ad, c, hi', l, by go_num, rfl, by omega, by rw [HG.out, HGO.out], hlh, F3⟩, rfl⟩
      case measure => (simp [intOf]; have := HKR.out; omega)
    have hcz' : (d.code != 0) = false := by simpa using hcz
    have HF := doneP_facts (r := r) (p := p) (move := (j : Int)) (by rw [← HD.out]; exact hcz)
    have HMO := Lib.hid (makeP_ok (r := r) (p := p) (move := (j : Int)) (by rw [← HD.out]; exact hcz))
    rw [← HD.out] at HF HMO
    obtain ⟨f1, f2, f3, f4, f5⟩ := HF
    have HG : Hid (allGo r p (j + 1) = allGo r p j ++ [makeP r p j]) := allGo_ok (by rw [makeP_code, ← HD.out]; exact hcz)
    obtain ⟨hpn, hpn1⟩ := HPN.out
    have hT2l : pn < d.stores.length := by omega
    have hpsl : pn < p.stores.length := by omega
    obtain ⟨vg, hvg, hv1, hv2⟩ := own_lt_n ho.stores (by omega : 0 < d.stores.length)
    obtain ⟨s1, hs1⟩ : ∃ s1, s1 = d.stores[pn] := ⟨_, rfl⟩
    obtain ⟨s2, hs2⟩ : ∃ s2, s2 = p.stores[pn] := ⟨_, rfl⟩
    have b1 : d.stores.getD p.player.toNat 0 = s1 := by rw [show p.player.toNat = pn by omega, hs1]; simp [hT2l]
    have b2 : p.stores.getD p.player.toNat 0 = s2 := by rw [show p.player.toNat = pn by omega, hs2]; simp [hpsl]
    have hsb : 0 ≤ s1 ∧ s1 ≤ 2000 := by rw [← b1]; exact f3 _
    have hsc2 : 0 ≤ s2 ∧ s2 ≤ 2000 := by rw [← b2]; exact f4 _
    have hes1 : w2.cell? ⟨vg, pn, none⟩ = some (.int .i64 s1) := by
      have h1 := ho.stores
      rw [hvg] at h1
      rw [h1.cellAt pn (by show pn < d.stores.length * 1; omega), hs1]
      simp [hT2l]
    obtain ⟨sg', so', hsa, hsgl, hscs⟩ := Ints.open HH.out.stores (by omega)
    have hes2 : w2.cell? ⟨sg', so' + pn, none⟩ = some (.int .i64 s2) := (F2.below.cell (show (Addr.mk sg' (so' + pn) none).block < _ from hsgl)).trans (by rw [hs2]; exact hscs pn hpsl)
    have hsg2 : sg' < w2.heap.size := by have := F2.below.size; omega
    obtain ⟨sb0, sb1⟩ := hsb
    obtain ⟨sc0, sc1⟩ := hsc2
    have HMK : Hid (makeP r p (j : Int) = ⟨0, j, s1 - s2, r.again && decide (d.last = -1), d.pits, d.stores, if (r.again && decide (d.last = -1)) = true then p.player else 1 - p.player⟩) := by
      unfold Hid; rw [HMO.out, b1, b2]
    have hplN : p.player.toNat = pn := by omega
    have hpl0 : 0 ≤ p.player := by omega
    have hpl1 : p.player ≤ 1 := by omega
    have hti : p.player < (d.stores.length : Int) := by omega
    have hpi : p.player < (p.stores.length : Int) := by omega
    have hwr : IntKind.i64.wrap (1 - p.player) = 1 - p.player := IntWalk.i64_in _ (by omega)
    have hll : l.length ≤ 100 := by
      have h1 := allGo_len r p j
      rw [← HGO.out, List.length_map] at h1
      omega
    have hwh : w.heap.size ≤ wr.heap.size := F.below.size
    have hgb : wr.heap.size ≤ vg := by omega
    subst hvg
    subst hsa
    have HO := Lib.hid ho
    clear hs1 hs2 hpn b1 b2 f1 f2 f3 f4 HMO ho F
    have hw3 : r.again = false ∨ (r.again = true ∧ d.last = -1) ∨ (r.again = true ∧ ¬ d.last = -1) := by
      cases r.again
      · exact .inl rfl
      · by_cases h : d.last = -1
        · exact .inr (.inl ⟨rfl, h⟩)
        · exact .inr (.inr ⟨rfl, h⟩)
    rcases hw3 with hag | ⟨hag, hla⟩ | ⟨hag, hla⟩
    · rw [hag] at c6
      (try have e3 : (d.last == -1) = true := by simpa using hla)
      (try have e3 : (d.last == -1) = false := by simpa using hla)
      have HM1 : Hid (makeP r p (j : Int) = ⟨0, j, s1 - s2, false, d.pits, d.stores, (1-p.player)⟩) := by
        have hb3 : (r.again && decide (d.last = -1)) = false := by rw [hag]; first | rfl | (simp; exact hla)
        unfold Hid; rw [HMK.out, hb3]; rfl
      clear hag
      (try clear hla)
      have FA := (F2.alloc #[.slice ua d.pits.length uc, .slice (some ⟨vg, 0, none⟩) d.stores.length vc, .int .i64 d.last, .int .i64 d.laps] 148).alloc #[.slice ua d.pits.length uc, .slice (some ⟨vg, 0, none⟩) d.stores.length vc, .int .i64 (1-p.player)] 30
      have BX : Below w2.heap.size w2 ((w2.alloc (.cells #[.slice ua d.pits.length uc, .slice (some ⟨vg, 0, none⟩) d.stores.length vc, .int .i64 d.last, .int .i64 d.laps] 148)).alloc (.cells #[.slice ua d.pits.length uc, .slice (some ⟨vg, 0, none⟩) d.stores.length vc, .int .i64 (1-p.player)] 30)) := (below_alloc1 w2 _).trans ((below_alloc1 _ _).mono (by simp))
      have hzX : ((w2.alloc (.cells #[.slice ua d.pits.length uc, .slice (some ⟨vg, 0, none⟩) d.stores.length vc, .int .i64 d.last, .int .i64 d.laps] 148)).alloc (.cells #[.slice ua d.pits.length uc, .slice (some ⟨vg, 0, none⟩) d.stores.length vc, .int .i64 (1-p.player)] 30)).heap.size = w2.heap.size + 1 + 1 := by simp
      obtain ⟨n0, n1, n2⟩ := (⟨FA.at 0 rfl 0 _ rfl, FA.at 0 rfl 1 _ rfl, FA.at 0 rfl 2 _ rfl⟩ : _ ∧ _ ∧ _)
      obtain ⟨o0, o1, o2, o3⟩ := (⟨FA.at 1 rfl 0 _ rfl, FA.at 1 rfl 1 _ rfl, FA.at 1 rfl 2 _ rfl, FA.at 1 rfl 3 _ rfl⟩ : _ ∧ _ ∧ _ ∧ _)
      simp only [World.size_alloc] at n0 n1 n2
      have FX := F2.step BX
      obtain ⟨e0, e1, e2⟩ := P.boxc (FX.at 1 rfl)
      have x1 := (BX.cell (show (Addr.mk vg pn none).block < _ from hv2)).trans hes1
      have x2 := (BX.cell (show (Addr.mk sg' (so' + pn) none).block < _ from hsg2)).trans hes2
      go_wp2_with fail
      generalize ((w2.alloc (.cells #[.slice ua d.pits.length uc, .slice (some ⟨vg, 0, none⟩) d.stores.length vc, .int .i64 d.last, .int .i64 d.laps] 148)).alloc (.cells #[.slice ua d.pits.length uc, .slice (some ⟨vg, 0, none⟩) d.stores.length vc, .int .i64 (1-p.player)] 30)) = X at *
      have HKP : Hid (∀ W : World, (∀ b o, (b < w.heap.size + 1 + 1 ∨ hi' ≤ b) → b < X.heap.size → W.cell? ⟨b, o, none⟩ = X.cell? ⟨b, o, none⟩) → (fun W => W.cell? ⟨w.heap.size + 1, 1, none⟩ = some (.slice (some ⟨sg', so', none⟩) p.stores.length sc) ∧ W.cell? ⟨w.heap.size + 1, 2, none⟩ = some (.int .i64 p.player) ∧ W.cell? ⟨w2.heap.size, 1, none⟩ = some (.slice (some ⟨vg, 0, none⟩) d.stores.length vc) ∧ W.cell? ⟨w2.heap.size + 1, 0, none⟩ = some (.slice ua d.pits.length uc) ∧ W.cell? ⟨w2.heap.size + 1, 1, none⟩ = some (.slice (some ⟨vg, 0, none⟩) d.stores.length vc) ∧ W.cell? ⟨w2.heap.size + 1, 2, none⟩ = some (.int .i64 (1-p.player)) ∧ W.cell? ⟨vg, pn, none⟩ = some (.int .i64 s1) ∧ W.cell? ⟨sg', so' + pn, none⟩ = some (.int .i64 s2)) W) := fun W H =>
        ⟨(H _ _ (.inl (by omega)) (by omega)).trans e1, (H _ _ (.inl (by omega)) (by omega)).trans e2, (H _ _ (.inr (by omega)) (by omega)).trans o1, (H _ _ (.inr (by omega)) (by omega)).trans n0, (H _ _ (.inr (by omega)) (by omega)).trans n1, (H _ _ (.inr (by omega)) (by omega)).trans n2, (H _ _ (.inr (by omega)) (by omega)).trans x1, (H _ _ (.inl (by omega)) (by omega)).trans x2⟩
      have B5 : Below X.heap.size X ((X.alloc (.cells #[.int .i64 (j : Int), .int .i64 (s1 - s2), .bool false, .slice ua d.pits.length uc, .slice (some ⟨vg, 0, none⟩) d.stores.length vc, .int .i64 (1-p.player)] 144)).drew) := (below_alloc1 X _).drew
      have F5 := FX.step B5
      have HOX := Lib.hid ((HO.out.below BX (Nat.le_refl _)).below B5 (Nat.le_refl _))
      have HOWN := Lib.hid (F5.at 0 rfl).1.row
      have HRB := Lib.hid (F5.at 0 rfl)
      have hwr2 : IntKind.i64.wrap (s1 - s2) = s1 - s2 := IntWalk.i64_in _ (by omega)
      have HCX : Hid (∀ b o, b < X.heap.size → ((X.alloc (.cells #[.int .i64 (j : Int), .int .i64 (s1 - s2), .bool false, .slice ua d.pits.length uc, .slice (some ⟨vg, 0, none⟩) d.stores.length vc, .int .i64 (1-p.player)] 144)).drew).cell? ⟨b, o, none⟩ = X.cell? ⟨b, o, none⟩) := fun b o hb => B5.cell (show (Addr.mk b o none).block < _ from hb)
      clear c0 c1 c2 c3 c4 c5 c6 c7 c8 d0 d1 d2 e0 e1 e2 n0 n1 n2 o0 o1 o2 o3 x1 x2 hes1 hes2 B5 FA
      refine heldH (S := fun W => W.cell? ⟨w.heap.size + 1, 1, none⟩ = some (.slice (some ⟨sg', so', none⟩) p.stores.length sc) ∧ W.cell? ⟨w.heap.size + 1, 2, none⟩ = some (.int .i64 p.player) ∧ W.cell? ⟨w2.heap.size, 1, none⟩ = some (.slice (some ⟨vg, 0, none⟩) d.stores.length vc) ∧ W.cell? ⟨w2.heap.size + 1, 0, none⟩ = some (.slice ua d.pits.length uc) ∧ W.cell? ⟨w2.heap.size + 1, 1, none⟩ = some (.slice (some ⟨vg, 0, none⟩) d.stores.length vc) ∧ W.cell? ⟨w2.heap.size + 1, 2, none⟩ = some (.int .i64 (1-p.player)) ∧ W.cell? ⟨vg, pn, none⟩ = some (.int .i64 s1) ∧ W.cell? ⟨sg', so' + pn, none⟩ = some (.int .i64 s2)) (n := 21) (listed := #[false, false, false, false, false, false, false, false, false, false, false, false, false, false, false, false, false, false, false, false, false]) (by kernel_rfl) (by rfl) (by rfl) ?_ (fun hHeld => ?_)
      (focus ((try dsimp only); (first | done | ((first | exact HKP.out _ (fun b o _ h2 => rfl) | exact HKP.out _ (fun b o _ h2 => HCX.out b o h2) | exact HKP.out _ (fun b o h1 h2 => (hg4.cell_far ⟨b, o, none⟩ (by simp; omega) (fun e => by have h3 := HRB.out.2.1 b e.symm; have h4 := (HRB.out.1.row.lt b e.symm).1; omega)).trans (HCX.out b o h2))); done))))
      (first | ((refine takeH (i := 0) (v := ?_) (by decide +kernel) (by decide +kernel) (by kernel_rfl) (by rfl) (by exact fun _ _ _ h => h) (by rfl) ?_ (by assumption) ?_); rotate_left; (focus (intro w hSw; (try dsimp only at hSw); go_simp; (try with_reducible rfl); done)); (try simp only [Act.put, List.setIfInBounds_toArray, List.set_cons_zero, List.set_cons_succ])) | ((refine skipH (i := 0) (by decide +kernel) (by decide +kernel) (by kernel_rfl) (by rfl) (by exact fun _ _ _ h => h) (by rfl) (by assumption) ?_); (try simp only [Act.put, List.setIfInBounds_toArray, List.set_cons_zero, List.set_cons_succ])))
      (first | ((refine takeH (i := 1) (v := ?_) (by decide +kernel) (by decide +kernel) (by kernel_rfl) (by rfl) (by exact fun _ _ _ h => h) (by rfl) ?_ (by assumption) ?_); rotate_left; (focus (intro w hSw; (try dsimp only at hSw); go_simp; (try with_reducible rfl); done)); (try simp only [Act.put, List.setIfInBounds_toArray, List.set_cons_zero, List.set_cons_succ])) | ((refine skipH (i := 1) (by decide +kernel) (by decide +kernel) (by kernel_rfl) (by rfl) (by exact fun _ _ _ h => h) (by rfl) (by assumption) ?_); (try simp only [Act.put, List.setIfInBounds_toArray, List.set_cons_zero, List.set_cons_succ])))
      (first | ((refine takeH (i := 2) (v := ?_) (by decide +kernel) (by decide +kernel) (by kernel_rfl) (by rfl) (by exact fun _ _ _ h => h) (by rfl) ?_ (by assumption) ?_); rotate_left; (focus (intro w hSw; (try dsimp only at hSw); go_simp; (try with_reducible rfl); done)); (try simp only [Act.put, List.setIfInBounds_toArray, List.set_cons_zero, List.set_cons_succ])) | ((refine skipH (i := 2) (by decide +kernel) (by decide +kernel) (by kernel_rfl) (by rfl) (by exact fun _ _ _ h => h) (by rfl) (by assumption) ?_); (try simp only [Act.put, List.setIfInBounds_toArray, List.set_cons_zero, List.set_cons_succ])))
      (first | ((refine takeH (i := 3) (v := ?_) (by decide +kernel) (by decide +kernel) (by kernel_rfl) (by rfl) (by exact fun _ _ _ h => h) (by rfl) ?_ (by assumption) ?_); rotate_left; (focus (intro w hSw; (try dsimp only at hSw); go_simp; (try with_reducible rfl); done)); (try simp only [Act.put, List.setIfInBounds_toArray, List.set_cons_zero, List.set_cons_succ])) | ((refine skipH (i := 3) (by decide +kernel) (by decide +kernel) (by kernel_rfl) (by rfl) (by exact fun _ _ _ h => h) (by rfl) (by assumption) ?_); (try simp only [Act.put, List.setIfInBounds_toArray, List.set_cons_zero, List.set_cons_succ])))
      (first | ((refine takeH (i := 4) (v := ?_) (by decide +kernel) (by decide +kernel) (by kernel_rfl) (by rfl) (by exact fun _ _ _ h => h) (by rfl) ?_ (by assumption) ?_); rotate_left; (focus (intro w hSw; (try dsimp only at hSw); go_simp; (try with_reducible rfl); done)); (try simp only [Act.put, List.setIfInBounds_toArray, List.set_cons_zero, List.set_cons_succ])) | ((refine skipH (i := 4) (by decide +kernel) (by decide +kernel) (by kernel_rfl) (by rfl) (by exact fun _ _ _ h => h) (by rfl) (by assumption) ?_); (try simp only [Act.put, List.setIfInBounds_toArray, List.set_cons_zero, List.set_cons_succ])))
      (first | ((refine takeH (i := 5) (v := ?_) (by decide +kernel) (by decide +kernel) (by kernel_rfl) (by rfl) (by exact fun _ _ _ h => h) (by rfl) ?_ (by assumption) ?_); rotate_left; (focus (intro w hSw; (try dsimp only at hSw); go_simp; (try with_reducible rfl); done)); (try simp only [Act.put, List.setIfInBounds_toArray, List.set_cons_zero, List.set_cons_succ])) | ((refine skipH (i := 5) (by decide +kernel) (by decide +kernel) (by kernel_rfl) (by rfl) (by exact fun _ _ _ h => h) (by rfl) (by assumption) ?_); (try simp only [Act.put, List.setIfInBounds_toArray, List.set_cons_zero, List.set_cons_succ])))
      (first | ((refine takeH (i := 6) (v := ?_) (by decide +kernel) (by decide +kernel) (by kernel_rfl) (by rfl) (by exact fun _ _ _ h => h) (by rfl) ?_ (by assumption) ?_); rotate_left; (focus (intro w hSw; (try dsimp only at hSw); go_simp; (try with_reducible rfl); done)); (try simp only [Act.put, List.setIfInBounds_toArray, List.set_cons_zero, List.set_cons_succ])) | ((refine skipH (i := 6) (by decide +kernel) (by decide +kernel) (by kernel_rfl) (by rfl) (by exact fun _ _ _ h => h) (by rfl) (by assumption) ?_); (try simp only [Act.put, List.setIfInBounds_toArray, List.set_cons_zero, List.set_cons_succ])))
      (first | ((refine takeH (i := 7) (v := ?_) (by decide +kernel) (by decide +kernel) (by kernel_rfl) (by rfl) (by exact fun _ _ _ h => h) (by rfl) ?_ (by assumption) ?_); rotate_left; (focus (intro w hSw; (try dsimp only at hSw); go_simp; (try with_reducible rfl); done)); (try simp only [Act.put, List.setIfInBounds_toArray, List.set_cons_zero, List.set_cons_succ])) | ((refine skipH (i := 7) (by decide +kernel) (by decide +kernel) (by kernel_rfl) (by rfl) (by exact fun _ _ _ h => h) (by rfl) (by assumption) ?_); (try simp only [Act.put, List.setIfInBounds_toArray, List.set_cons_zero, List.set_cons_succ])))
      (first | ((refine takeH (i := 8) (v := ?_) (by decide +kernel) (by decide +kernel) (by kernel_rfl) (by rfl) (by exact fun _ _ _ h => h) (by rfl) ?_ (by assumption) ?_); rotate_left; (focus (intro w hSw; (try dsimp only at hSw); go_simp; (try with_reducible rfl); done)); (try simp only [Act.put, List.setIfInBounds_toArray, List.set_cons_zero, List.set_cons_succ])) | ((refine skipH (i := 8) (by decide +kernel) (by decide +kernel) (by kernel_rfl) (by rfl) (by exact fun _ _ _ h => h) (by rfl) (by assumption) ?_); (try simp only [Act.put, List.setIfInBounds_toArray, List.set_cons_zero, List.set_cons_succ])))
      (first | ((refine takeH (i := 9) (v := ?_) (by decide +kernel) (by decide +kernel) (by kernel_rfl) (by rfl) (by exact fun _ _ _ h => h) (by rfl) ?_ (by assumption) ?_); rotate_left; (focus (intro w hSw; (try dsimp only at hSw); go_simp; (try with_reducible rfl); done)); (try simp only [Act.put, List.setIfInBounds_toArray, List.set_cons_zero, List.set_cons_succ])) | ((refine skipH (i := 9) (by decide +kernel) (by decide +kernel) (by kernel_rfl) (by rfl) (by exact fun _ _ _ h => h) (by rfl) (by assumption) ?_); (try simp only [Act.put, List.setIfInBounds_toArray, List.set_cons_zero, List.set_cons_succ])))
      (first | ((refine takeH (i := 10) (v := ?_) (by decide +kernel) (by decide +kernel) (by kernel_rfl) (by rfl) (by exact fun _ _ _ h => h) (by rfl) ?_ (by assumption) ?_); rotate_left; (focus (intro w hSw; (try dsimp only at hSw); go_simp; (try with_reducible rfl); done)); (try simp only [Act.put, List.setIfInBounds_toArray, List.set_cons_zero, List.set_cons_succ])) | ((refine skipH (i := 10) (by decide +kernel) (by decide +kernel) (by kernel_rfl) (by rfl) (by exact fun _ _ _ h => h) (by rfl) (by assumption) ?_); (try simp only [Act.put, List.setIfInBounds_toArray, List.set_cons_zero, List.set_cons_succ])))
      (first | ((refine takeH (i := 11) (v := ?_) (by decide +kernel) (by decide +kernel) (by kernel_rfl) (by rfl) (by exact fun _ _ _ h => h) (by rfl) ?_ (by assumption) ?_); rotate_left; (focus (intro w hSw; (try dsimp only at hSw); go_simp; (try with_reducible rfl); done)); (try simp only [Act.put, List.setIfInBounds_toArray, List.set_cons_zero, List.set_cons_succ])) | ((refine skipH (i := 11) (by decide +kernel) (by decide +kernel) (by kernel_rfl) (by rfl) (by exact fun _ _ _ h => h) (by rfl) (by assumption) ?_); (try simp only [Act.put, List.setIfInBounds_toArray, List.set_cons_zero, List.set_cons_succ])))
      (first | ((refine takeH (i := 12) (v := ?_) (by decide +kernel) (by decide +kernel) (by kernel_rfl) (by rfl) (by exact fun _ _ _ h => h) (by rfl) ?_ (by assumption) ?_); rotate_left; (focus (intro w hSw; (try dsimp only at hSw); go_simp; (try with_reducible rfl); done)); (try simp only [Act.put, List.setIfInBounds_toArray, List.set_cons_zero, List.set_cons_succ])) | ((refine skipH (i := 12) (by decide +kernel) (by decide +kernel) (by kernel_rfl) (by rfl) (by exact fun _ _ _ h => h) (by rfl) (by assumption) ?_); (try simp only [Act.put, List.setIfInBounds_toArray, List.set_cons_zero, List.set_cons_succ])))
      (first | ((refine takeH (i := 13) (v := ?_) (by decide +kernel) (by decide +kernel) (by kernel_rfl) (by rfl) (by exact fun _ _ _ h => h) (by rfl) ?_ (by assumption) ?_); rotate_left; (focus (intro w hSw; (try dsimp only at hSw); go_simp; (try with_reducible rfl); done)); (try simp only [Act.put, List.setIfInBounds_toArray, List.set_cons_zero, List.set_cons_succ])) | ((refine skipH (i := 13) (by decide +kernel) (by decide +kernel) (by kernel_rfl) (by rfl) (by exact fun _ _ _ h => h) (by rfl) (by assumption) ?_); (try simp only [Act.put, List.setIfInBounds_toArray, List.set_cons_zero, List.set_cons_succ])))
      (first | ((refine takeH (i := 14) (v := ?_) (by decide +kernel) (by decide +kernel) (by kernel_rfl) (by rfl) (by exact fun _ _ _ h => h) (by rfl) ?_ (by assumption) ?_); rotate_left; (focus (intro w hSw; (try dsimp only at hSw); go_simp; (try with_reducible rfl); done)); (try simp only [Act.put, List.setIfInBounds_toArray, List.set_cons_zero, List.set_cons_succ])) | ((refine skipH (i := 14) (by decide +kernel) (by decide +kernel) (by kernel_rfl) (by rfl) (by exact fun _ _ _ h => h) (by rfl) (by assumption) ?_); (try simp only [Act.put, List.setIfInBounds_toArray, List.set_cons_zero, List.set_cons_succ])))
      (first | ((refine takeH (i := 15) (v := ?_) (by decide +kernel) (by decide +kernel) (by kernel_rfl) (by rfl) (by exact fun _ _ _ h => h) (by rfl) ?_ (by assumption) ?_); rotate_left; (focus (intro w hSw; (try dsimp only at hSw); go_simp; (try with_reducible rfl); done)); (try simp only [Act.put, List.setIfInBounds_toArray, List.set_cons_zero, List.set_cons_succ])) | ((refine skipH (i := 15) (by decide +kernel) (by decide +kernel) (by kernel_rfl) (by rfl) (by exact fun _ _ _ h => h) (by rfl) (by assumption) ?_); (try simp only [Act.put, List.setIfInBounds_toArray, List.set_cons_zero, List.set_cons_succ])))
      (first | ((refine takeH (i := 16) (v := ?_) (by decide +kernel) (by decide +kernel) (by kernel_rfl) (by rfl) (by exact fun _ _ _ h => h) (by rfl) ?_ (by assumption) ?_); rotate_left; (focus (intro w hSw; (try dsimp only at hSw); go_simp; (try with_reducible rfl); done)); (try simp only [Act.put, List.setIfInBounds_toArray, List.set_cons_zero, List.set_cons_succ])) | ((refine skipH (i := 16) (by decide +kernel) (by decide +kernel) (by kernel_rfl) (by rfl) (by exact fun _ _ _ h => h) (by rfl) (by assumption) ?_); (try simp only [Act.put, List.setIfInBounds_toArray, List.set_cons_zero, List.set_cons_succ])))
      (first | ((refine takeH (i := 17) (v := ?_) (by decide +kernel) (by decide +kernel) (by kernel_rfl) (by rfl) (by exact fun _ _ _ h => h) (by rfl) ?_ (by assumption) ?_); rotate_left; (focus (intro w hSw; (try dsimp only at hSw); go_simp; (try with_reducible rfl); done)); (try simp only [Act.put, List.setIfInBounds_toArray, List.set_cons_zero, List.set_cons_succ])) | ((refine skipH (i := 17) (by decide +kernel) (by decide +kernel) (by kernel_rfl) (by rfl) (by exact fun _ _ _ h => h) (by rfl) (by assumption) ?_); (try simp only [Act.put, List.setIfInBounds_toArray, List.set_cons_zero, List.set_cons_succ])))
      refine nextH (i := 18) (by decide +kernel) (by rfl) (by rfl) (fun K hK => ?_)
      (first | ((refine wp_append_lies _ _ _ 203 rfl (w.heap.size + 1 + 1) 144 i0 _ 6 80 Try.underlying203 hi hz0 hz1 hz2 rfl (by decide) _ _ _ rfl HOWN.out ⟨w2.heap.size + 1 + 1, 0, none⟩ 1 1 [.int .i64 (j : Int), .int .i64 (s1 - s2), .bool false, .slice ua d.pits.length uc, .slice (some ⟨vg, 0, none⟩) d.stores.length vc, .int .i64 (1-p.player)] rfl rfl (by intro j u hu; match j, hu with | 0, hu | 1, hu | 2, hu | 3, hu | 4, hu | 5, hu => (simp at hu; subst hu; simp [Addr.add, ← hzX])) (by intro u hu; simp at hu; rcases hu with rfl | rfl | rfl | rfl | rfl | rfl <;> rfl) (by decide) (by unfold maxLen; omega) (by omega) (by simp; omega) _ rfl ?_); (intro g cap w4 hown4 hg4 hat4 hlt4)) | (go_simp; (skip)))
      refine hK.out _ _ ?_ (fun hHeld' => ?_)
      (focus ((try dsimp only); (first | done | ((first | exact HKP.out _ (fun b o _ h2 => rfl) | exact HKP.out _ (fun b o _ h2 => HCX.out b o h2) | exact HKP.out _ (fun b o h1 h2 => (hg4.cell_far ⟨b, o, none⟩ (by simp; omega) (fun e => by have h3 := HRB.out.2.1 b e.symm; have h4 := (HRB.out.1.row.lt b e.symm).1; omega)).trans (HCX.out b o h2))); done))))
      clear hK K hHeld
      have hHeld := hHeld'
      clear hHeld'
      (try simp only [Act.put, List.setIfInBounds_toArray, List.set_cons_zero, List.set_cons_succ])
      refine nextH (i := 19) (by decide +kernel) (by rfl) (by rfl) (fun K hK => ?_)
      (first | ((refine wp_append_lies _ _ _ 203 rfl (w.heap.size + 1 + 1) 144 i0 _ 6 80 Try.underlying203 hi hz0 hz1 hz2 rfl (by decide) _ _ _ rfl HOWN.out ⟨w2.heap.size + 1 + 1, 0, none⟩ 1 1 [.int .i64 (j : Int), .int .i64 (s1 - s2), .bool false, .slice ua d.pits.length uc, .slice (some ⟨vg, 0, none⟩) d.stores.length vc, .int .i64 (1-p.player)] rfl rfl (by intro j u hu; match j, hu with | 0, hu | 1, hu | 2, hu | 3, hu | 4, hu | 5, hu => (simp at hu; subst hu; simp [Addr.add, ← hzX])) (by intro u hu; simp at hu; rcases hu with rfl | rfl | rfl | rfl | rfl | rfl <;> rfl) (by decide) (by unfold maxLen; omega) (by omega) (by simp; omega) _ rfl ?_); (intro g cap w4 hown4 hg4 hat4 hlt4)) | (go_simp; (skip)))
      refine hK.out _ _ ?_ (fun hHeld' => ?_)
      (focus ((try dsimp only); (first | done | ((first | exact HKP.out _ (fun b o _ h2 => rfl) | exact HKP.out _ (fun b o _ h2 => HCX.out b o h2) | exact HKP.out _ (fun b o h1 h2 => (hg4.cell_far ⟨b, o, none⟩ (by simp; omega) (fun e => by have h3 := HRB.out.2.1 b e.symm; have h4 := (HRB.out.1.row.lt b e.symm).1; omega)).trans (HCX.out b o h2))); done))))
      clear hK K hHeld
      have hHeld := hHeld'
      clear hHeld'
      (try simp only [Act.put, List.setIfInBounds_toArray, List.set_cons_zero, List.set_cons_succ])
      (first | ((refine takeH (i := 20) (v := ?_) (by decide +kernel) (by decide +kernel) (by kernel_rfl) (by rfl) (by exact fun _ _ _ h => h) (by rfl) ?_ (by assumption) ?_); rotate_left; (focus (intro w hSw; (try dsimp only at hSw); go_simp; (try with_reducible rfl); done)); (try simp only [Act.put, List.setIfInBounds_toArray, List.set_cons_zero, List.set_cons_succ])) | ((refine skipH (i := 20) (by decide +kernel) (by decide +kernel) (by kernel_rfl) (by rfl) (by exact fun _ _ _ h => h) (by rfl) (by assumption) ?_); (try simp only [Act.put, List.setIfInBounds_toArray, List.set_cons_zero, List.set_cons_succ])))
      refine wpAnyH_done (by decide +kernel) ?_ _
      have FN := Fr.appM (x := ((⟨0, (j : Int), s1 - s2, false, d.pits, d.stores, (1-p.player)⟩ : Mk), ⟨ua, uc, some ⟨vg, 0, none⟩, vc⟩)) F5 (by omega) hlh (fun r hr => by simp at hr; rcases hr with rfl | rfl <;> (simp; try omega)) (POwn.le ⟨HOX.out.pits, HOX.out.stores, HOX.out.apart⟩ hhi') hg4 hown4
        (fun k hk => by
          have hgk : g = k := by simpa [Value.ownBlock] using hk
          subst hgk
          rcases hat4 with h5 | h5
          · exact .inl h5
          · exact .inr (by rw [h5]; exact Nat.le_refl _))
      have HN := Lib.hid FN
      have HLH : Hid (w.heap.size + 1 + 1 ≤ w4.heap.size) := by
        have h1 := F5.below.size
        have h2 := hg4.size
        have h3 := hlh
        have h4 : w.heap.size + 1 + 1 ≤ X.heap.size := by omega
        have h5 : X.heap.size ≤ w4.heap.size := Nat.le_trans (by simp) h2
        unfold Hid; omega
      clear FN hown4 hg4 hat4 hlt4 F5 HOX HOWN HRB HCX HKP hHeld FX BX
      go_wp2
      go_roundw
      case rel =>
        (repeat apply Exists.intro)
        exact ⟨⟨j + 1, some ⟨g, 0, none⟩, cap, _, l ++ [((⟨0, (j : Int), s1 - s2, false, d.pits, d.stores, (1-p.player)⟩ : Mk), ⟨ua, uc, some ⟨vg, 0, none⟩, vc⟩)], by go_num, by simp, by omega, by rw [HG.out, List.map_append, HGO.out, HM1.out]; rfl, HLH.out, HN.out⟩, rfl⟩
      case measure => (simp [intOf]; have := HKR.out; omega)
    · rw [hag] at c6
      (try have e3 : (d.last == -1) = true := by simpa using hla)
      (try have e3 : (d.last == -1) = false := by simpa using hla)
      have HM1 : Hid (makeP r p (j : Int) = ⟨0, j, s1 - s2, true, d.pits, d.stores, p.player⟩) := by
        have hb3 : (r.again && decide (d.last = -1)) = true := by rw [hag]; first | rfl | (simp; exact hla)
        unfold Hid; rw [HMK.out, hb3]; rfl
      clear hag
      (try clear hla)
      have FA := (F2.alloc #[.slice ua d.pits.length uc, .slice (some ⟨vg, 0, none⟩) d.stores.length vc, .int .i64 d.last, .int .i64 d.laps] 148).alloc #[.slice ua d.pits.length uc, .slice (some ⟨vg, 0, none⟩) d.stores.length vc, .int .i64 p.player] 30
      have BX : Below w2.heap.size w2 ((w2.alloc (.cells #[.slice ua d.pits.length uc, .slice (some ⟨vg, 0, none⟩) d.stores.length vc, .int .i64 d.last, .int .i64 d.laps] 148)).alloc (.cells #[.slice ua d.pits.length uc, .slice (some ⟨vg, 0, none⟩) d.stores.length vc, .int .i64 p.player] 30)) := (below_alloc1 w2 _).trans ((below_alloc1 _ _).mono (by simp))
      have hzX : ((w2.alloc (.cells #[.slice ua d.pits.length uc, .slice (some ⟨vg, 0, none⟩) d.stores.length vc, .int .i64 d.last, .int .i64 d.laps] 148)).alloc (.cells #[.slice ua d.pits.length uc, .slice (some ⟨vg, 0, none⟩) d.stores.length vc, .int .i64 p.player] 30)).heap.size = w2.heap.size + 1 + 1 := by simp
      obtain ⟨n0, n1, n2⟩ := (⟨FA.at 0 rfl 0 _ rfl, FA.at 0 rfl 1 _ rfl, FA.at 0 rfl 2 _ rfl⟩ : _ ∧ _ ∧ _)
      obtain ⟨o0, o1, o2, o3⟩ := (⟨FA.at 1 rfl 0 _ rfl, FA.at 1 rfl 1 _ rfl, FA.at 1 rfl 2 _ rfl, FA.at 1 rfl 3 _ rfl⟩ : _ ∧ _ ∧ _ ∧ _)
      simp only [World.size_alloc] at n0 n1 n2
      have FX := F2.step BX
      obtain ⟨e0, e1, e2⟩ := P.boxc (FX.at 1 rfl)
      have x1 := (BX.cell (show (Addr.mk vg pn none).block < _ from hv2)).trans hes1
      have x2 := (BX.cell (show (Addr.mk sg' (so' + pn) none).block < _ from hsg2)).trans hes2
      go_wp2_with fail
      generalize ((w2.alloc (.cells #[.slice ua d.pits.length uc, .slice (some ⟨vg, 0, none⟩) d.stores.length vc, .int .i64 d.last, .int .i64 d.laps] 148)).alloc (.cells #[.slice ua d.pits.length uc, .slice (some ⟨vg, 0, none⟩) d.stores.length vc, .int .i64 p.player] 30)) = X at *
      have HKP : Hid (∀ W : World, (∀ b o, (b < w.heap.size + 1 + 1 ∨ hi' ≤ b) → b < X.heap.size → W.cell? ⟨b, o, none⟩ = X.cell? ⟨b, o, none⟩) → (fun W => W.cell? ⟨w.heap.size + 1, 1, none⟩ = some (.slice (some ⟨sg', so', none⟩) p.stores.length sc) ∧ W.cell? ⟨w.heap.size + 1, 2, none⟩ = some (.int .i64 p.player) ∧ W.cell? ⟨w2.heap.size, 1, none⟩ = some (.slice (some ⟨vg, 0, none⟩) d.stores.length vc) ∧ W.cell? ⟨w2.heap.size + 1, 0, none⟩ = some (.slice ua d.pits.length uc) ∧ W.cell? ⟨w2.heap.size + 1, 1, none⟩ = some (.slice (some ⟨vg, 0, none⟩) d.stores.length vc) ∧ W.cell? ⟨w2.heap.size + 1, 2, none⟩ = some (.int .i64 p.player) ∧ W.cell? ⟨vg, pn, none⟩ = some (.int .i64 s1) ∧ W.cell? ⟨sg', so' + pn, none⟩ = some (.int .i64 s2)) W) := fun W H =>
        ⟨(H _ _ (.inl (by omega)) (by omega)).trans e1, (H _ _ (.inl (by omega)) (by omega)).trans e2, (H _ _ (.inr (by omega)) (by omega)).trans o1, (H _ _ (.inr (by omega)) (by omega)).trans n0, (H _ _ (.inr (by omega)) (by omega)).trans n1, (H _ _ (.inr (by omega)) (by omega)).trans n2, (H _ _ (.inr (by omega)) (by omega)).trans x1, (H _ _ (.inl (by omega)) (by omega)).trans x2⟩
      have B5 : Below X.heap.size X ((X.alloc (.cells #[.int .i64 (j : Int), .int .i64 (s1 - s2), .bool true, .slice ua d.pits.length uc, .slice (some ⟨vg, 0, none⟩) d.stores.length vc, .int .i64 p.player] 144)).drew) := (below_alloc1 X _).drew
      have F5 := FX.step B5
      have HOX := Lib.hid ((HO.out.below BX (Nat.le_refl _)).below B5 (Nat.le_refl _))
      have HOWN := Lib.hid (F5.at 0 rfl).1.row
      have HRB := Lib.hid (F5.at 0 rfl)
      have hwr2 : IntKind.i64.wrap (s1 - s2) = s1 - s2 := IntWalk.i64_in _ (by omega)
      have HCX : Hid (∀ b o, b < X.heap.size → ((X.alloc (.cells #[.int .i64 (j : Int), .int .i64 (s1 - s2), .bool true, .slice ua d.pits.length uc, .slice (some ⟨vg, 0, none⟩) d.stores.length vc, .int .i64 p.player] 144)).drew).cell? ⟨b, o, none⟩ = X.cell? ⟨b, o, none⟩) := fun b o hb => B5.cell (show (Addr.mk b o none).block < _ from hb)
      clear c0 c1 c2 c3 c4 c5 c6 c7 c8 d0 d1 d2 e0 e1 e2 n0 n1 n2 o0 o1 o2 o3 x1 x2 hes1 hes2 B5 FA
      refine heldH (S := fun W => W.cell? ⟨w.heap.size + 1, 1, none⟩ = some (.slice (some ⟨sg', so', none⟩) p.stores.length sc) ∧ W.cell? ⟨w.heap.size + 1, 2, none⟩ = some (.int .i64 p.player) ∧ W.cell? ⟨w2.heap.size, 1, none⟩ = some (.slice (some ⟨vg, 0, none⟩) d.stores.length vc) ∧ W.cell? ⟨w2.heap.size + 1, 0, none⟩ = some (.slice ua d.pits.length uc) ∧ W.cell? ⟨w2.heap.size + 1, 1, none⟩ = some (.slice (some ⟨vg, 0, none⟩) d.stores.length vc) ∧ W.cell? ⟨w2.heap.size + 1, 2, none⟩ = some (.int .i64 p.player) ∧ W.cell? ⟨vg, pn, none⟩ = some (.int .i64 s1) ∧ W.cell? ⟨sg', so' + pn, none⟩ = some (.int .i64 s2)) (n := 21) (listed := #[false, false, false, false, false, false, false, false, false, false, false, false, false, false, false, false, false, false, false, false, false]) (by kernel_rfl) (by rfl) (by rfl) ?_ (fun hHeld => ?_)
      (focus ((try dsimp only); (first | done | ((first | exact HKP.out _ (fun b o _ h2 => rfl) | exact HKP.out _ (fun b o _ h2 => HCX.out b o h2) | exact HKP.out _ (fun b o h1 h2 => (hg4.cell_far ⟨b, o, none⟩ (by simp; omega) (fun e => by have h3 := HRB.out.2.1 b e.symm; have h4 := (HRB.out.1.row.lt b e.symm).1; omega)).trans (HCX.out b o h2))); done))))
      (first | ((refine takeH (i := 0) (v := ?_) (by decide +kernel) (by decide +kernel) (by kernel_rfl) (by rfl) (by exact fun _ _ _ h => h) (by rfl) ?_ (by assumption) ?_); rotate_left; (focus (intro w hSw; (try dsimp only at hSw); go_simp; (try with_reducible rfl); done)); (try simp only [Act.put, List.setIfInBounds_toArray, List.set_cons_zero, List.set_cons_succ])) | ((refine skipH (i := 0) (by decide +kernel) (by decide +kernel) (by kernel_rfl) (by rfl) (by exact fun _ _ _ h => h) (by rfl) (by assumption) ?_); (try simp only [Act.put, List.setIfInBounds_toArray, List.set_cons_zero, List.set_cons_succ])))
      (first | ((refine takeH (i := 1) (v := ?_) (by decide +kernel) (by decide +kernel) (by kernel_rfl) (by rfl) (by exact fun _ _ _ h => h) (by rfl) ?_ (by assumption) ?_); rotate_left; (focus (intro w hSw; (try dsimp only at hSw); go_simp; (try with_reducible rfl); done)); (try simp only [Act.put, List.setIfInBounds_toArray, List.set_cons_zero, List.set_cons_succ])) | ((refine skipH (i := 1) (by decide +kernel) (by decide +kernel) (by kernel_rfl) (by rfl) (by exact fun _ _ _ h => h) (by rfl) (by assumption) ?_); (try simp only [Act.put, List.setIfInBounds_toArray, List.set_cons_zero, List.set_cons_succ])))
      (first | ((refine takeH (i := 2) (v := ?_) (by decide +kernel) (by decide +kernel) (by kernel_rfl) (by rfl) (by exact fun _ _ _ h => h) (by rfl) ?_ (by assumption) ?_); rotate_left; (focus (intro w hSw; (try dsimp only at hSw); go_simp; (try with_reducible rfl); done)); (try simp only [Act.put, List.setIfInBounds_toArray, List.set_cons_zero, List.set_cons_succ])) | ((refine skipH (i := 2) (by decide +kernel) (by decide +kernel) (by kernel_rfl) (by rfl) (by exact fun _ _ _ h => h) (by rfl) (by assumption) ?_); (try simp only [Act.put, List.setIfInBounds_toArray, List.set_cons_zero, List.set_cons_succ])))
      (first | ((refine takeH (i := 3) (v := ?_) (by decide +kernel) (by decide +kernel) (by kernel_rfl) (by rfl) (by exact fun _ _ _ h => h) (by rfl) ?_ (by assumption) ?_); rotate_left; (focus (intro w hSw; (try dsimp only at hSw); go_simp; (try with_reducible rfl); done)); (try simp only [Act.put, List.setIfInBounds_toArray, List.set_cons_zero, List.set_cons_succ])) | ((refine skipH (i := 3) (by decide +kernel) (by decide +kernel) (by kernel_rfl) (by rfl) (by exact fun _ _ _ h => h) (by rfl) (by assumption) ?_); (try simp only [Act.put, List.setIfInBounds_toArray, List.set_cons_zero, List.set_cons_succ])))
      (first | ((refine takeH (i := 4) (v := ?_) (by decide +kernel) (by decide +kernel) (by kernel_rfl) (by rfl) (by exact fun _ _ _ h => h) (by rfl) ?_ (by assumption) ?_); rotate_left; (focus (intro w hSw; (try dsimp only at hSw); go_simp; (try with_reducible rfl); done)); (try simp only [Act.put, List.setIfInBounds_toArray, List.set_cons_zero, List.set_cons_succ])) | ((refine skipH (i := 4) (by decide +kernel) (by decide +kernel) (by kernel_rfl) (by rfl) (by exact fun _ _ _ h => h) (by rfl) (by assumption) ?_); (try simp only [Act.put, List.setIfInBounds_toArray, List.set_cons_zero, List.set_cons_succ])))
      (first | ((refine takeH (i := 5) (v := ?_) (by decide +kernel) (by decide +kernel) (by kernel_rfl) (by rfl) (by exact fun _ _ _ h => h) (by rfl) ?_ (by assumption) ?_); rotate_left; (focus (intro w hSw; (try dsimp only at hSw); go_simp; (try with_reducible rfl); done)); (try simp only [Act.put, List.setIfInBounds_toArray, List.set_cons_zero, List.set_cons_succ])) | ((refine skipH (i := 5) (by decide +kernel) (by decide +kernel) (by kernel_rfl) (by rfl) (by exact fun _ _ _ h => h) (by rfl) (by assumption) ?_); (try simp only [Act.put, List.setIfInBounds_toArray, List.set_cons_zero, List.set_cons_succ])))
      (first | ((refine takeH (i := 6) (v := ?_) (by decide +kernel) (by decide +kernel) (by kernel_rfl) (by rfl) (by exact fun _ _ _ h => h) (by rfl) ?_ (by assumption) ?_); rotate_left; (focus (intro w hSw; (try dsimp only at hSw); go_simp; (try with_reducible rfl); done)); (try simp only [Act.put, List.setIfInBounds_toArray, List.set_cons_zero, List.set_cons_succ])) | ((refine skipH (i := 6) (by decide +kernel) (by decide +kernel) (by kernel_rfl) (by rfl) (by exact fun _ _ _ h => h) (by rfl) (by assumption) ?_); (try simp only [Act.put, List.setIfInBounds_toArray, List.set_cons_zero, List.set_cons_succ])))
      (first | ((refine takeH (i := 7) (v := ?_) (by decide +kernel) (by decide +kernel) (by kernel_rfl) (by rfl) (by exact fun _ _ _ h => h) (by rfl) ?_ (by assumption) ?_); rotate_left; (focus (intro w hSw; (try dsimp only at hSw); go_simp; (try with_reducible rfl); done)); (try simp only [Act.put, List.setIfInBounds_toArray, List.set_cons_zero, List.set_cons_succ])) | ((refine skipH (i := 7) (by decide +kernel) (by decide +kernel) (by kernel_rfl) (by rfl) (by exact fun _ _ _ h => h) (by rfl) (by assumption) ?_); (try simp only [Act.put, List.setIfInBounds_toArray, List.set_cons_zero, List.set_cons_succ])))
      (first | ((refine takeH (i := 8) (v := ?_) (by decide +kernel) (by decide +kernel) (by kernel_rfl) (by rfl) (by exact fun _ _ _ h => h) (by rfl) ?_ (by assumption) ?_); rotate_left; (focus (intro w hSw; (try dsimp only at hSw); go_simp; (try with_reducible rfl); done)); (try simp only [Act.put, List.setIfInBounds_toArray, List.set_cons_zero, List.set_cons_succ])) | ((refine skipH (i := 8) (by decide +kernel) (by decide +kernel) (by kernel_rfl) (by rfl) (by exact fun _ _ _ h => h) (by rfl) (by assumption) ?_); (try simp only [Act.put, List.setIfInBounds_toArray, List.set_cons_zero, List.set_cons_succ])))
      (first | ((refine takeH (i := 9) (v := ?_) (by decide +kernel) (by decide +kernel) (by kernel_rfl) (by rfl) (by exact fun _ _ _ h => h) (by rfl) ?_ (by assumption) ?_); rotate_left; (focus (intro w hSw; (try dsimp only at hSw); go_simp; (try with_reducible rfl); done)); (try simp only [Act.put, List.setIfInBounds_toArray, List.set_cons_zero, List.set_cons_succ])) | ((refine skipH (i := 9) (by decide +kernel) (by decide +kernel) (by kernel_rfl) (by rfl) (by exact fun _ _ _ h => h) (by rfl) (by assumption) ?_); (try simp only [Act.put, List.setIfInBounds_toArray, List.set_cons_zero, List.set_cons_succ])))
      (first | ((refine takeH (i := 10) (v := ?_) (by decide +kernel) (by decide +kernel) (by kernel_rfl) (by rfl) (by exact fun _ _ _ h => h) (by rfl) ?_ (by assumption) ?_); rotate_left; (focus (intro w hSw; (try dsimp only at hSw); go_simp; (try with_reducible rfl); done)); (try simp only [Act.put, List.setIfInBounds_toArray, List.set_cons_zero, List.set_cons_succ])) | ((refine skipH (i := 10) (by decide +kernel) (by decide +kernel) (by kernel_rfl) (by rfl) (by exact fun _ _ _ h => h) (by rfl) (by assumption) ?_); (try simp only [Act.put, List.setIfInBounds_toArray, List.set_cons_zero, List.set_cons_succ])))
      (first | ((refine takeH (i := 11) (v := ?_) (by decide +kernel) (by decide +kernel) (by kernel_rfl) (by rfl) (by exact fun _ _ _ h => h) (by rfl) ?_ (by assumption) ?_); rotate_left; (focus (intro w hSw; (try dsimp only at hSw); go_simp; (try with_reducible rfl); done)); (try simp only [Act.put, List.setIfInBounds_toArray, List.set_cons_zero, List.set_cons_succ])) | ((refine skipH (i := 11) (by decide +kernel) (by decide +kernel) (by kernel_rfl) (by rfl) (by exact fun _ _ _ h => h) (by rfl) (by assumption) ?_); (try simp only [Act.put, List.setIfInBounds_toArray, List.set_cons_zero, List.set_cons_succ])))
      (first | ((refine takeH (i := 12) (v := ?_) (by decide +kernel) (by decide +kernel) (by kernel_rfl) (by rfl) (by exact fun _ _ _ h => h) (by rfl) ?_ (by assumption) ?_); rotate_left; (focus (intro w hSw; (try dsimp only at hSw); go_simp; (try with_reducible rfl); done)); (try simp only [Act.put, List.setIfInBounds_toArray, List.set_cons_zero, List.set_cons_succ])) | ((refine skipH (i := 12) (by decide +kernel) (by decide +kernel) (by kernel_rfl) (by rfl) (by exact fun _ _ _ h => h) (by rfl) (by assumption) ?_); (try simp only [Act.put, List.setIfInBounds_toArray, List.set_cons_zero, List.set_cons_succ])))
      (first | ((refine takeH (i := 13) (v := ?_) (by decide +kernel) (by decide +kernel) (by kernel_rfl) (by rfl) (by exact fun _ _ _ h => h) (by rfl) ?_ (by assumption) ?_); rotate_left; (focus (intro w hSw; (try dsimp only at hSw); go_simp; (try with_reducible rfl); done)); (try simp only [Act.put, List.setIfInBounds_toArray, List.set_cons_zero, List.set_cons_succ])) | ((refine skipH (i := 13) (by decide +kernel) (by decide +kernel) (by kernel_rfl) (by rfl) (by exact fun _ _ _ h => h) (by rfl) (by assumption) ?_); (try simp only [Act.put, List.setIfInBounds_toArray, List.set_cons_zero, List.set_cons_succ])))
      (first | ((refine takeH (i := 14) (v := ?_) (by decide +kernel) (by decide +kernel) (by kernel_rfl) (by rfl) (by exact fun _ _ _ h => h) (by rfl) ?_ (by assumption) ?_); rotate_left; (focus (intro w hSw; (try dsimp only at hSw); go_simp; (try with_reducible rfl); done)); (try simp only [Act.put, List.setIfInBounds_toArray, List.set_cons_zero, List.set_cons_succ])) | ((refine skipH (i := 14) (by decide +kernel) (by decide +kernel) (by kernel_rfl) (by rfl) (by exact fun _ _ _ h => h) (by rfl) (by assumption) ?_); (try simp only [Act.put, List.setIfInBounds_toArray, List.set_cons_zero, List.set_cons_succ])))
      (first | ((refine takeH (i := 15) (v := ?_) (by decide +kernel) (by decide +kernel) (by kernel_rfl) (by rfl) (by exact fun _ _ _ h => h) (by rfl) ?_ (by assumption) ?_); rotate_left; (focus (intro w hSw; (try dsimp only at hSw); go_simp; (try with_reducible rfl); done)); (try simp only [Act.put, List.setIfInBounds_toArray, List.set_cons_zero, List.set_cons_succ])) | ((refine skipH (i := 15) (by decide +kernel) (by decide +kernel) (by kernel_rfl) (by rfl) (by exact fun _ _ _ h => h) (by rfl) (by assumption) ?_); (try simp only [Act.put, List.setIfInBounds_toArray, List.set_cons_zero, List.set_cons_succ])))
      (first | ((refine takeH (i := 16) (v := ?_) (by decide +kernel) (by decide +kernel) (by kernel_rfl) (by rfl) (by exact fun _ _ _ h => h) (by rfl) ?_ (by assumption) ?_); rotate_left; (focus (intro w hSw; (try dsimp only at hSw); go_simp; (try with_reducible rfl); done)); (try simp only [Act.put, List.setIfInBounds_toArray, List.set_cons_zero, List.set_cons_succ])) | ((refine skipH (i := 16) (by decide +kernel) (by decide +kernel) (by kernel_rfl) (by rfl) (by exact fun _ _ _ h => h) (by rfl) (by assumption) ?_); (try simp only [Act.put, List.setIfInBounds_toArray, List.set_cons_zero, List.set_cons_succ])))
      (first | ((refine takeH (i := 17) (v := ?_) (by decide +kernel) (by decide +kernel) (by kernel_rfl) (by rfl) (by exact fun _ _ _ h => h) (by rfl) ?_ (by assumption) ?_); rotate_left; (focus (intro w hSw; (try dsimp only at hSw); go_simp; (try with_reducible rfl); done)); (try simp only [Act.put, List.setIfInBounds_toArray, List.set_cons_zero, List.set_cons_succ])) | ((refine skipH (i := 17) (by decide +kernel) (by decide +kernel) (by kernel_rfl) (by rfl) (by exact fun _ _ _ h => h) (by rfl) (by assumption) ?_); (try simp only [Act.put, List.setIfInBounds_toArray, List.set_cons_zero, List.set_cons_succ])))
      refine nextH (i := 18) (by decide +kernel) (by rfl) (by rfl) (fun K hK => ?_)
      (first | ((refine wp_append_lies _ _ _ 203 rfl (w.heap.size + 1 + 1) 144 i0 _ 6 80 Try.underlying203 hi hz0 hz1 hz2 rfl (by decide) _ _ _ rfl HOWN.out ⟨w2.heap.size + 1 + 1, 0, none⟩ 1 1 [.int .i64 (j : Int), .int .i64 (s1 - s2), .bool true, .slice ua d.pits.length uc, .slice (some ⟨vg, 0, none⟩) d.stores.length vc, .int .i64 p.player] rfl rfl (by intro j u hu; match j, hu with | 0, hu | 1, hu | 2, hu | 3, hu | 4, hu | 5, hu => (simp at hu; subst hu; simp [Addr.add, ← hzX])) (by intro u hu; simp at hu; rcases hu with rfl | rfl | rfl | rfl | rfl | rfl <;> rfl) (by decide) (by unfold maxLen; omega) (by omega) (by simp; omega) _ rfl ?_); (intro g cap w4 hown4 hg4 hat4 hlt4)) | (go_simp; (skip)))
      refine hK.out _ _ ?_ (fun hHeld' => ?_)
      (focus ((try dsimp only); (first | done | ((first | exact HKP.out _ (fun b o _ h2 => rfl) | exact HKP.out _ (fun b o _ h2 => HCX.out b o h2) | exact HKP.out _ (fun b o h1 h2 => (hg4.cell_far ⟨b, o, none⟩ (by simp; omega) (fun e => by have h3 := HRB.out.2.1 b e.symm; have h4 := (HRB.out.1.row.lt b e.symm).1; omega)).trans (HCX.out b o h2))); done))))
      clear hK K hHeld
      have hHeld := hHeld'
      clear hHeld'
      (try simp only [Act.put, List.setIfInBounds_toArray, List.set_cons_zero, List.set_cons_succ])
      refine nextH (i := 19) (by decide +kernel) (by rfl) (by rfl) (fun K hK => ?_)
      (first | ((refine wp_append_lies _ _ _ 203 rfl (w.heap.size + 1 + 1) 144 i0 _ 6 80 Try.underlying203 hi hz0 hz1 hz2 rfl (by decide) _ _ _ rfl HOWN.out ⟨w2.heap.size + 1 + 1, 0, none⟩ 1 1 [.int .i64 (j : Int), .int .i64 (s1 - s2), .bool true, .slice ua d.pits.length uc, .slice (some ⟨vg, 0, none⟩) d.stores.length vc, .int .i64 p.player] rfl rfl (by intro j u hu; match j, hu with | 0, hu | 1, hu | 2, hu | 3, hu | 4, hu | 5, hu => (simp at hu; subst hu; simp [Addr.add, ← hzX])) (by intro u hu; simp at hu; rcases hu with rfl | rfl | rfl | rfl | rfl | rfl <;> rfl) (by decide) (by unfold maxLen; omega) (by omega) (by simp; omega) _ rfl ?_); (intro g cap w4 hown4 hg4 hat4 hlt4)) | (go_simp; (skip)))
      refine hK.out _ _ ?_ (fun hHeld' => ?_)
      (focus ((try dsimp only); (first | done | ((first | exact HKP.out _ (fun b o _ h2 => rfl) | exact HKP.out _ (fun b o _ h2 => HCX.out b o h2) | exact HKP.out _ (fun b o h1 h2 => (hg4.cell_far ⟨b, o, none⟩ (by simp; omega) (fun e => by have h3 := HRB.out.2.1 b e.symm; have h4 := (HRB.out.1.row.lt b e.symm).1; omega)).trans (HCX.out b o h2))); done))))
      clear hK K hHeld
      have hHeld := hHeld'
      clear hHeld'
      (try simp only [Act.put, List.setIfInBounds_toArray, List.set_cons_zero, List.set_cons_succ])
      (first | ((refine takeH (i := 20) (v := ?_) (by decide +kernel) (by decide +kernel) (by kernel_rfl) (by rfl) (by exact fun _ _ _ h => h) (by rfl) ?_ (by assumption) ?_); rotate_left; (focus (intro w hSw; (try dsimp only at hSw); go_simp; (try with_reducible rfl); done)); (try simp only [Act.put, List.setIfInBounds_toArray, List.set_cons_zero, List.set_cons_succ])) | ((refine skipH (i := 20) (by decide +kernel) (by decide +kernel) (by kernel_rfl) (by rfl) (by exact fun _ _ _ h => h) (by rfl) (by assumption) ?_); (try simp only [Act.put, List.setIfInBounds_toArray, List.set_cons_zero, List.set_cons_succ])))
      refine wpAnyH_done (by decide +kernel) ?_ _
      have FN := Fr.appM (x := ((⟨0, (j : Int), s1 - s2, true, d.pits, d.stores, p.player⟩ : Mk), ⟨ua, uc, some ⟨vg, 0, none⟩, vc⟩)) F5 (by omega) hlh (fun r hr => by simp at hr; rcases hr with rfl | rfl <;> (simp; try omega)) (POwn.le ⟨HOX.out.pits, HOX.out.stores, HOX.out.apart⟩ hhi') hg4 hown4
        (fun k hk => by
          have hgk : g = k := by simpa [Value.ownBlock] using hk
          subst hgk
          rcases hat4 with h5 | h5
          · exact .inl h5
          · exact .inr (by rw [h5]; exact Nat.le_refl _))
      have HN := Lib.hid FN
      have HLH : Hid (w.heap.size + 1 + 1 ≤ w4.heap.size) := by
        have h1 := F5.below.size
        have h2 := hg4.size
        have h3 := hlh
        have h4 : w.heap.size + 1 + 1 ≤ X.heap.size := by omega
        have h5 : X.heap.size ≤ w4.heap.size := Nat.le_trans (by simp) h2
        unfold Hid; omega
      clear FN hown4 hg4 hat4 hlt4 F5 HOX HOWN HRB HCX HKP hHeld FX BX
      go_wp2
      go_roundw
      case rel =>
        (repeat apply Exists.intro)
        exact ⟨⟨j + 1, some ⟨g, 0, none⟩, cap, _, l ++ [((⟨0, (j : Int), s1 - s2, true, d.pits, d.stores, p.player⟩ : Mk), ⟨ua, uc, some ⟨vg, 0, none⟩, vc⟩)], by go_num, by simp, by omega, by rw [HG.out, List.map_append, HGO.out, HM1.out]; rfl, HLH.out, HN.out⟩, rfl⟩
      case measure => (simp [intOf]; have := HKR.out; omega)
    · rw [hag] at c6
      (try have e3 : (d.last == -1) = true := by simpa using hla)
      (try have e3 : (d.last == -1) = false := by simpa using hla)
      have HM1 : Hid (makeP r p (j : Int) = ⟨0, j, s1 - s2, false, d.pits, d.stores, (1-p.player)⟩) := by
        have hb3 : (r.again && decide (d.last = -1)) = false := by rw [hag]; first | rfl | (simp; exact hla)
        unfold Hid; rw [HMK.out, hb3]; rfl
      clear hag
      (try clear hla)
      have FA := (F2.alloc #[.slice ua d.pits.length uc, .slice (some ⟨vg, 0, none⟩) d.stores.length vc, .int .i64 d.last, .int .i64 d.laps] 148).alloc #[.slice ua d.pits.length uc, .slice (some ⟨vg, 0, none⟩) d.stores.length vc, .int .i64 (1-p.player)] 30
      have BX : Below w2.heap.size w2 ((w2.alloc (.cells #[.slice ua d.pits.length uc, .slice (some ⟨vg, 0, none⟩) d.stores.length vc, .int .i64 d.last, .int .i64 d.laps] 148)).alloc (.cells #[.slice ua d.pits.length uc, .slice (some ⟨vg, 0, none⟩) d.stores.length vc, .int .i64 (1-p.player)] 30)) := (below_alloc1 w2 _).trans ((below_alloc1 _ _).mono (by simp))
      have hzX : ((w2.alloc (.cells #[.slice ua d.pits.length uc, .slice (some ⟨vg, 0, none⟩) d.stores.length vc, .int .i64 d.last, .int .i64 d.laps] 148)).alloc (.cells #[.slice ua d.pits.length uc, .slice (some ⟨vg, 0, none⟩) d.stores.length vc, .int .i64 (1-p.player)] 30)).heap.size = w2.heap.size + 1 + 1 := by simp
      obtain ⟨n0, n1, n2⟩ := (⟨FA.at 0 rfl 0 _ rfl, FA.at 0 rfl 1 _ rfl, FA.at 0 rfl 2 _ rfl⟩ : _ ∧ _ ∧ _)
      obtain ⟨o0, o1, o2, o3⟩ := (⟨FA.at 1 rfl 0 _ rfl, FA.at 1 rfl 1 _ rfl, FA.at 1 rfl 2 _ rfl, FA.at 1 rfl 3 _ rfl⟩ : _ ∧ _ ∧ _ ∧ _)
      simp only [World.size_alloc] at n0 n1 n2
      have FX := F2.step BX
      obtain ⟨e0, e1, e2⟩ := P.boxc (FX.at 1 rfl)
      have x1 := (BX.cell (show (Addr.mk vg pn none).block < _ from hv2)).trans hes1
      have x2 := (BX.cell (show (Addr.mk sg' (so' + pn) none).block < _ from hsg2)).trans hes2
      go_wp2_with fail
      generalize ((w2.alloc (.cells #[.slice ua d.pits.length uc, .slice (some ⟨vg, 0, none⟩) d.stores.length vc, .int .i64 d.last, .int .i64 d.laps] 148)).alloc (.cells #[.slice ua d.pits.length uc, .slice (some ⟨vg, 0, none⟩) d.stores.length vc, .int .i64 (1-p.player)] 30)) = X at *
      have HKP : Hid (∀ W : World, (∀ b o, (b < w.heap.size + 1 + 1 ∨ hi' ≤ b) → b < X.heap.size → W.cell? ⟨b, o, none⟩ = X.cell? ⟨b, o, none⟩) → (fun W => W.cell? ⟨w.heap.size + 1, 1, none⟩ = some (.slice (some ⟨sg', so', none⟩) p.stores.length sc) ∧ W.cell? ⟨w.heap.size + 1, 2, none⟩ = some (.int .i64 p.player) ∧ W.cell? ⟨w2.heap.size, 1, none⟩ = some (.slice (some ⟨vg, 0, none⟩) d.stores.length vc) ∧ W.cell? ⟨w2.heap.size + 1, 0, none⟩ = some (.slice ua d.pits.length uc) ∧ W.cell? ⟨w2.heap.size + 1, 1, none⟩ = some (.slice (some ⟨vg, 0, none⟩) d.stores.length vc) ∧ W.cell? ⟨w2.heap.size + 1, 2, none⟩ = some (.int .i64 (1-p.player)) ∧ W.cell? ⟨vg, pn, none⟩ = some (.int .i64 s1) ∧ W.cell? ⟨sg', so' + pn, none⟩ = some (.int .i64 s2)) W) := fun W H =>
        ⟨(H _ _ (.inl (by omega)) (by omega)).trans e1, (H _ _ (.inl (by omega)) (by omega)).trans e2, (H _ _ (.inr (by omega)) (by omega)).trans o1, (H _ _ (.inr (by omega)) (by omega)).trans n0, (H _ _ (.inr (by omega)) (by omega)).trans n1, (H _ _ (.inr (by omega)) (by omega)).trans n2, (H _ _ (.inr (by omega)) (by omega)).trans x1, (H _ _ (.inl (by omega)) (by omega)).trans x2⟩
      have B5 : Below X.heap.size X ((X.alloc (.cells #[.int .i64 (j : Int), .int .i64 (s1 - s2), .bool false, .slice ua d.pits.length uc, .slice (some ⟨vg, 0, none⟩) d.stores.length vc, .int .i64 (1-p.player)] 144)).drew) := (below_alloc1 X _).drew
      have F5 := FX.step B5
      have HOX := Lib.hid ((HO.out.below BX (Nat.le_refl _)).below B5 (Nat.le_refl _))
      have HOWN := Lib.hid (F5.at 0 rfl).1.row
      have HRB := Lib.hid (F5.at 0 rfl)
      have hwr2 : IntKind.i64.wrap (s1 - s2) = s1 - s2 := IntWalk.i64_in _ (by omega)
      have HCX : Hid (∀ b o, b < X.heap.size → ((X.alloc (.cells #[.int .i64 (j : Int), .int .i64 (s1 - s2), .bool false, .slice ua d.pits.length uc, .slice (some ⟨vg, 0, none⟩) d.stores.length vc, .int .i64 (1-p.player)] 144)).drew).cell? ⟨b, o, none⟩ = X.cell? ⟨b, o, none⟩) := fun b o hb => B5.cell (show (Addr.mk b o none).block < _ from hb)
      clear c0 c1 c2 c3 c4 c5 c6 c7 c8 d0 d1 d2 e0 e1 e2 n0 n1 n2 o0 o1 o2 o3 x1 x2 hes1 hes2 B5 FA
      refine heldH (S := fun W => W.cell? ⟨w.heap.size + 1, 1, none⟩ = some (.slice (some ⟨sg', so', none⟩) p.stores.length sc) ∧ W.cell? ⟨w.heap.size + 1, 2, none⟩ = some (.int .i64 p.player) ∧ W.cell? ⟨w2.heap.size, 1, none⟩ = some (.slice (some ⟨vg, 0, none⟩) d.stores.length vc) ∧ W.cell? ⟨w2.heap.size + 1, 0, none⟩ = some (.slice ua d.pits.length uc) ∧ W.cell? ⟨w2.heap.size + 1, 1, none⟩ = some (.slice (some ⟨vg, 0, none⟩) d.stores.length vc) ∧ W.cell? ⟨w2.heap.size + 1, 2, none⟩ = some (.int .i64 (1-p.player)) ∧ W.cell? ⟨vg, pn, none⟩ = some (.int .i64 s1) ∧ W.cell? ⟨sg', so' + pn, none⟩ = some (.int .i64 s2)) (n := 21) (listed := #[false, false, false, false, false, false, false, false, false, false, false, false, false, false, false, false, false, false, false, false, false]) (by kernel_rfl) (by rfl) (by rfl) ?_ (fun hHeld => ?_)
      (focus ((try dsimp only); (first | done | ((first | exact HKP.out _ (fun b o _ h2 => rfl) | exact HKP.out _ (fun b o _ h2 => HCX.out b o h2) | exact HKP.out _ (fun b o h1 h2 => (hg4.cell_far ⟨b, o, none⟩ (by simp; omega) (fun e => by have h3 := HRB.out.2.1 b e.symm; have h4 := (HRB.out.1.row.lt b e.symm).1; omega)).trans (HCX.out b o h2))); done))))
      (first | ((refine takeH (i := 0) (v := ?_) (by decide +kernel) (by decide +kernel) (by kernel_rfl) (by rfl) (by exact fun _ _ _ h => h) (by rfl) ?_ (by assumption) ?_); rotate_left; (focus (intro w hSw; (try dsimp only at hSw); go_simp; (try with_reducible rfl); done)); (try simp only [Act.put, List.setIfInBounds_toArray, List.set_cons_zero, List.set_cons_succ])) | ((refine skipH (i := 0) (by decide +kernel) (by decide +kernel) (by kernel_rfl) (by rfl) (by exact fun _ _ _ h => h) (by rfl) (by assumption) ?_); (try simp only [Act.put, List.setIfInBounds_toArray, List.set_cons_zero, List.set_cons_succ])))
      (first | ((refine takeH (i := 1) (v := ?_) (by decide +kernel) (by decide +kernel) (by kernel_rfl) (by rfl) (by exact fun _ _ _ h => h) (by rfl) ?_ (by assumption) ?_); rotate_left; (focus (intro w hSw; (try dsimp only at hSw); go_simp; (try with_reducible rfl); done)); (try simp only [Act.put, List.setIfInBounds_toArray, List.set_cons_zero, List.set_cons_succ])) | ((refine skipH (i := 1) (by decide +kernel) (by decide +kernel) (by kernel_rfl) (by rfl) (by exact fun _ _ _ h => h) (by rfl) (by assumption) ?_); (try simp only [Act.put, List.setIfInBounds_toArray, List.set_cons_zero, List.set_cons_succ])))
      (first | ((refine takeH (i := 2) (v := ?_) (by decide +kernel) (by decide +kernel) (by kernel_rfl) (by rfl) (by exact fun _ _ _ h => h) (by rfl) ?_ (by assumption) ?_); rotate_left; (focus (intro w hSw; (try dsimp only at hSw); go_simp; (try with_reducible rfl); done)); (try simp only [Act.put, List.setIfInBounds_toArray, List.set_cons_zero, List.set_cons_succ])) | ((refine skipH (i := 2) (by decide +kernel) (by decide +kernel) (by kernel_rfl) (by rfl) (by exact fun _ _ _ h => h) (by rfl) (by assumption) ?_); (try simp only [Act.put, List.setIfInBounds_toArray, List.set_cons_zero, List.set_cons_succ])))
      (first | ((refine takeH (i := 3) (v := ?_) (by decide +kernel) (by decide +kernel) (by kernel_rfl) (by rfl) (by exact fun _ _ _ h => h) (by rfl) ?_ (by assumption) ?_); rotate_left; (focus (intro w hSw; (try dsimp only at hSw); go_simp; (try with_reducible rfl); done)); (try simp only [Act.put, List.setIfInBounds_toArray, List.set_cons_zero, List.set_cons_succ])) | ((refine skipH (i := 3) (by decide +kernel) (by decide +kernel) (by kernel_rfl) (by rfl) (by exact fun _ _ _ h => h) (by rfl) (by assumption) ?_); (try simp only [Act.put, List.setIfInBounds_toArray, List.set_cons_zero, List.set_cons_succ])))
      (first | ((refine takeH (i := 4) (v := ?_) (by decide +kernel) (by decide +kernel) (by kernel_rfl) (by rfl) (by exact fun _ _ _ h => h) (by rfl) ?_ (by assumption) ?_); rotate_left; (focus (intro w hSw; (try dsimp only at hSw); go_simp; (try with_reducible rfl); done)); (try simp only [Act.put, List.setIfInBounds_toArray, List.set_cons_zero, List.set_cons_succ])) | ((refine skipH (i := 4) (by decide +kernel) (by decide +kernel) (by kernel_rfl) (by rfl) (by exact fun _ _ _ h => h) (by rfl) (by assumption) ?_); (try simp only [Act.put, List.setIfInBounds_toArray, List.set_cons_zero, List.set_cons_succ])))
      (first | ((refine takeH (i := 5) (v := ?_) (by decide +kernel) (by decide +kernel) (by kernel_rfl) (by rfl) (by exact fun _ _ _ h => h) (by rfl) ?_ (by assumption) ?_); rotate_left; (focus (intro w hSw; (try dsimp only at hSw); go_simp; (try with_reducible rfl); done)); (try simp only [Act.put, List.setIfInBounds_toArray, List.set_cons_zero, List.set_cons_succ])) | ((refine skipH (i := 5) (by decide +kernel) (by decide +kernel) (by kernel_rfl) (by rfl) (by exact fun _ _ _ h => h) (by rfl) (by assumption) ?_); (try simp only [Act.put, List.setIfInBounds_toArray, List.set_cons_zero, List.set_cons_succ])))
      (first | ((refine takeH (i := 6) (v := ?_) (by decide +kernel) (by decide +kernel) (by kernel_rfl) (by rfl) (by exact fun _ _ _ h => h) (by rfl) ?_ (by assumption) ?_); rotate_left; (focus (intro w hSw; (try dsimp only at hSw); go_simp; (try with_reducible rfl); done)); (try simp only [Act.put, List.setIfInBounds_toArray, List.set_cons_zero, List.set_cons_succ])) | ((refine skipH (i := 6) (by decide +kernel) (by decide +kernel) (by kernel_rfl) (by rfl) (by exact fun _ _ _ h => h) (by rfl) (by assumption) ?_); (try simp only [Act.put, List.setIfInBounds_toArray, List.set_cons_zero, List.set_cons_succ])))
      (first | ((refine takeH (i := 7) (v := ?_) (by decide +kernel) (by decide +kernel) (by kernel_rfl) (by rfl) (by exact fun _ _ _ h => h) (by rfl) ?_ (by assumption) ?_); rotate_left; (focus (intro w hSw; (try dsimp only at hSw); go_simp; (try with_reducible rfl); done)); (try simp only [Act.put, List.setIfInBounds_toArray, List.set_cons_zero, List.set_cons_succ])) | ((refine skipH (i := 7) (by decide +kernel) (by decide +kernel) (by kernel_rfl) (by rfl) (by exact fun _ _ _ h => h) (by rfl) (by assumption) ?_); (try simp only [Act.put, List.setIfInBounds_toArray, List.set_cons_zero, List.set_cons_succ])))
      (first | ((refine takeH (i := 8) (v := ?_) (by decide +kernel) (by decide +kernel) (by kernel_rfl) (by rfl) (by exact fun _ _ _ h => h) (by rfl) ?_ (by assumption) ?_); rotate_left; (focus (intro w hSw; (try dsimp only at hSw); go_simp; (try with_reducible rfl); done)); (try simp only [Act.put, List.setIfInBounds_toArray, List.set_cons_zero, List.set_cons_succ])) | ((refine skipH (i := 8) (by decide +kernel) (by decide +kernel) (by kernel_rfl) (by rfl) (by exact fun _ _ _ h => h) (by rfl) (by assumption) ?_); (try simp only [Act.put, List.setIfInBounds_toArray, List.set_cons_zero, List.set_cons_succ])))
      (first | ((refine takeH (i := 9) (v := ?_) (by decide +kernel) (by decide +kernel) (by kernel_rfl) (by rfl) (by exact fun _ _ _ h => h) (by rfl) ?_ (by assumption) ?_); rotate_left; (focus (intro w hSw; (try dsimp only at hSw); go_simp; (try with_reducible rfl); done)); (try simp only [Act.put, List.setIfInBounds_toArray, List.set_cons_zero, List.set_cons_succ])) | ((refine skipH (i := 9) (by decide +kernel) (by decide +kernel) (by kernel_rfl) (by rfl) (by exact fun _ _ _ h => h) (by rfl) (by assumption) ?_); (try simp only [Act.put, List.setIfInBounds_toArray, List.set_cons_zero, List.set_cons_succ])))
      (first | ((refine takeH (i := 10) (v := ?_) (by decide +kernel) (by decide +kernel) (by kernel_rfl) (by rfl) (by exact fun _ _ _ h => h) (by rfl) ?_ (by assumption) ?_); rotate_left; (focus (intro w hSw; (try dsimp only at hSw); go_simp; (try with_reducible rfl); done)); (try simp only [Act.put, List.setIfInBounds_toArray, List.set_cons_zero, List.set_cons_succ])) | ((refine skipH (i := 10) (by decide +kernel) (by decide +kernel) (by kernel_rfl) (by rfl) (by exact fun _ _ _ h => h) (by rfl) (by assumption) ?_); (try simp only [Act.put, List.setIfInBounds_toArray, List.set_cons_zero, List.set_cons_succ])))
      (first | ((refine takeH (i := 11) (v := ?_) (by decide +kernel) (by decide +kernel) (by kernel_rfl) (by rfl) (by exact fun _ _ _ h => h) (by rfl) ?_ (by assumption) ?_); rotate_left; (focus (intro w hSw; (try dsimp only at hSw); go_simp; (try with_reducible rfl); done)); (try simp only [Act.put, List.setIfInBounds_toArray, List.set_cons_zero, List.set_cons_succ])) | ((refine skipH (i := 11) (by decide +kernel) (by decide +kernel) (by kernel_rfl) (by rfl) (by exact fun _ _ _ h => h) (by rfl) (by assumption) ?_); (try simp only [Act.put, List.setIfInBounds_toArray, List.set_cons_zero, List.set_cons_succ])))
      (first | ((refine takeH (i := 12) (v := ?_) (by decide +kernel) (by decide +kernel) (by kernel_rfl) (by rfl) (by exact fun _ _ _ h => h) (by rfl) ?_ (by assumption) ?_); rotate_left; (focus (intro w hSw; (try dsimp only at hSw); go_simp; (try with_reducible rfl); done)); (try simp only [Act.put, List.setIfInBounds_toArray, List.set_cons_zero, List.set_cons_succ])) | ((refine skipH (i := 12) (by decide +kernel) (by decide +kernel) (by kernel_rfl) (by rfl) (by exact fun _ _ _ h => h) (by rfl) (by assumption) ?_); (try simp only [Act.put, List.setIfInBounds_toArray, List.set_cons_zero, List.set_cons_succ])))
      (first | ((refine takeH (i := 13) (v := ?_) (by decide +kernel) (by decide +kernel) (by kernel_rfl) (by rfl) (by exact fun _ _ _ h => h) (by rfl) ?_ (by assumption) ?_); rotate_left; (focus (intro w hSw; (try dsimp only at hSw); go_simp; (try with_reducible rfl); done)); (try simp only [Act.put, List.setIfInBounds_toArray, List.set_cons_zero, List.set_cons_succ])) | ((refine skipH (i := 13) (by decide +kernel) (by decide +kernel) (by kernel_rfl) (by rfl) (by exact fun _ _ _ h => h) (by rfl) (by assumption) ?_); (try simp only [Act.put, List.setIfInBounds_toArray, List.set_cons_zero, List.set_cons_succ])))
      (first | ((refine takeH (i := 14) (v := ?_) (by decide +kernel) (by decide +kernel) (by kernel_rfl) (by rfl) (by exact fun _ _ _ h => h) (by rfl) ?_ (by assumption) ?_); rotate_left; (focus (intro w hSw; (try dsimp only at hSw); go_simp; (try with_reducible rfl); done)); (try simp only [Act.put, List.setIfInBounds_toArray, List.set_cons_zero, List.set_cons_succ])) | ((refine skipH (i := 14) (by decide +kernel) (by decide +kernel) (by kernel_rfl) (by rfl) (by exact fun _ _ _ h => h) (by rfl) (by assumption) ?_); (try simp only [Act.put, List.setIfInBounds_toArray, List.set_cons_zero, List.set_cons_succ])))
      (first | ((refine takeH (i := 15) (v := ?_) (by decide +kernel) (by decide +kernel) (by kernel_rfl) (by rfl) (by exact fun _ _ _ h => h) (by rfl) ?_ (by assumption) ?_); rotate_left; (focus (intro w hSw; (try dsimp only at hSw); go_simp; (try with_reducible rfl); done)); (try simp only [Act.put, List.setIfInBounds_toArray, List.set_cons_zero, List.set_cons_succ])) | ((refine skipH (i := 15) (by decide +kernel) (by decide +kernel) (by kernel_rfl) (by rfl) (by exact fun _ _ _ h => h) (by rfl) (by assumption) ?_); (try simp only [Act.put, List.setIfInBounds_toArray, List.set_cons_zero, List.set_cons_succ])))
      (first | ((refine takeH (i := 16) (v := ?_) (by decide +kernel) (by decide +kernel) (by kernel_rfl) (by rfl) (by exact fun _ _ _ h => h) (by rfl) ?_ (by assumption) ?_); rotate_left; (focus (intro w hSw; (try dsimp only at hSw); go_simp; (try with_reducible rfl); done)); (try simp only [Act.put, List.setIfInBounds_toArray, List.set_cons_zero, List.set_cons_succ])) | ((refine skipH (i := 16) (by decide +kernel) (by decide +kernel) (by kernel_rfl) (by rfl) (by exact fun _ _ _ h => h) (by rfl) (by assumption) ?_); (try simp only [Act.put, List.setIfInBounds_toArray, List.set_cons_zero, List.set_cons_succ])))
      (first | ((refine takeH (i := 17) (v := ?_) (by decide +kernel) (by decide +kernel) (by kernel_rfl) (by rfl) (by exact fun _ _ _ h => h) (by rfl) ?_ (by assumption) ?_); rotate_left; (focus (intro w hSw; (try dsimp only at hSw); go_simp; (try with_reducible rfl); done)); (try simp only [Act.put, List.setIfInBounds_toArray, List.set_cons_zero, List.set_cons_succ])) | ((refine skipH (i := 17) (by decide +kernel) (by decide +kernel) (by kernel_rfl) (by rfl) (by exact fun _ _ _ h => h) (by rfl) (by assumption) ?_); (try simp only [Act.put, List.setIfInBounds_toArray, List.set_cons_zero, List.set_cons_succ])))
      refine nextH (i := 18) (by decide +kernel) (by rfl) (by rfl) (fun K hK => ?_)
      (first | ((refine wp_append_lies _ _ _ 203 rfl (w.heap.size + 1 + 1) 144 i0 _ 6 80 Try.underlying203 hi hz0 hz1 hz2 rfl (by decide) _ _ _ rfl HOWN.out ⟨w2.heap.size + 1 + 1, 0, none⟩ 1 1 [.int .i64 (j : Int), .int .i64 (s1 - s2), .bool false, .slice ua d.pits.length uc, .slice (some ⟨vg, 0, none⟩) d.stores.length vc, .int .i64 (1-p.player)] rfl rfl (by intro j u hu; match j, hu with | 0, hu | 1, hu | 2, hu | 3, hu | 4, hu | 5, hu => (simp at hu; subst hu; simp [Addr.add, ← hzX])) (by intro u hu; simp at hu; rcases hu with rfl | rfl | rfl | rfl | rfl | rfl <;> rfl) (by decide) (by unfold maxLen; omega) (by omega) (by simp; omega) _ rfl ?_); (intro g cap w4 hown4 hg4 hat4 hlt4)) | (go_simp; (skip)))
      refine hK.out _ _ ?_ (fun hHeld' => ?_)
      (focus ((try dsimp only); (first | done | ((first | exact HKP.out _ (fun b o _ h2 => rfl) | exact HKP.out _ (fun b o _ h2 => HCX.out b o h2) | exact HKP.out _ (fun b o h1 h2 => (hg4.cell_far ⟨b, o, none⟩ (by simp; omega) (fun e => by have h3 := HRB.out.2.1 b e.symm; have h4 := (HRB.out.1.row.lt b e.symm).1; omega)).trans (HCX.out b o h2))); done))))
      clear hK K hHeld
      have hHeld := hHeld'
      clear hHeld'
      (try simp only [Act.put, List.setIfInBounds_toArray, List.set_cons_zero, List.set_cons_succ])
      refine nextH (i := 19) (by decide +kernel) (by rfl) (by rfl) (fun K hK => ?_)
      (first | ((refine wp_append_lies _ _ _ 203 rfl (w.heap.size + 1 + 1) 144 i0 _ 6 80 Try.underlying203 hi hz0 hz1 hz2 rfl (by decide) _ _ _ rfl HOWN.out ⟨w2.heap.size + 1 + 1, 0, none⟩ 1 1 [.int .i64 (j : Int), .int .i64 (s1 - s2), .bool false, .slice ua d.pits.length uc, .slice (some ⟨vg, 0, none⟩) d.stores.length vc, .int .i64 (1-p.player)] rfl rfl (by intro j u hu; match j, hu with | 0, hu | 1, hu | 2, hu | 3, hu | 4, hu | 5, hu => (simp at hu; subst hu; simp [Addr.add, ← hzX])) (by intro u hu; simp at hu; rcases hu with rfl | rfl | rfl | rfl | rfl | rfl <;> rfl) (by decide) (by unfold maxLen; omega) (by omega) (by simp; omega) _ rfl ?_); (intro g cap w4 hown4 hg4 hat4 hlt4)) | (go_simp; (skip)))
      refine hK.out _ _ ?_ (fun hHeld' => ?_)
      (focus ((try dsimp only); (first | done | ((first | exact HKP.out _ (fun b o _ h2 => rfl) | exact HKP.out _ (fun b o _ h2 => HCX.out b o h2) | exact HKP.out _ (fun b o h1 h2 => (hg4.cell_far ⟨b, o, none⟩ (by simp; omega) (fun e => by have h3 := HRB.out.2.1 b e.symm; have h4 := (HRB.out.1.row.lt b e.symm).1; omega)).trans (HCX.out b o h2))); done))))
      clear hK K hHeld
      have hHeld := hHeld'
      clear hHeld'
      (try simp only [Act.put, List.setIfInBounds_toArray, List.set_cons_zero, List.set_cons_succ])
      (first | ((refine takeH (i := 20) (v := ?_) (by decide +kernel) (by decide +kernel) (by kernel_rfl) (by rfl) (by exact fun _ _ _ h => h) (by rfl) ?_ (by assumption) ?_); rotate_left; (focus (intro w hSw; (try dsimp only at hSw); go_simp; (try with_reducible rfl); done)); (try simp only [Act.put, List.setIfInBounds_toArray, List.set_cons_zero, List.set_cons_succ])) | ((refine skipH (i := 20) (by decide +kernel) (by decide +kernel) (by kernel_rfl) (by rfl) (by exact fun _ _ _ h => h) (by rfl) (by assumption) ?_); (try simp only [Act.put, List.setIfInBounds_toArray, List.set_cons_zero, List.set_cons_succ])))
      refine wpAnyH_done (by decide +kernel) ?_ _
      have FN := Fr.appM (x := ((⟨0, (j : Int), s1 - s2, false, d.pits, d.stores, (1-p.player)⟩ : Mk), ⟨ua, uc, some ⟨vg, 0, none⟩, vc⟩)) F5 (by omega) hlh (fun r hr => by simp at hr; rcases hr with rfl | rfl <;> (simp; try omega)) (POwn.le ⟨HOX.out.pits, HOX.out.stores, HOX.out.apart⟩ hhi') hg4 hown4
        (fun k hk => by
          have hgk : g = k := by simpa [Value.ownBlock] using hk
          subst hgk
          rcases hat4 with h5 | h5
          · exact .inl h5
          · exact .inr (by rw [h5]; exact Nat.le_refl _))
      have HN := Lib.hid FN
      have HLH : Hid (w.heap.size + 1 + 1 ≤ w4.heap.size) := by
        have h1 := F5.below.size
        have h2 := hg4.size
        have h3 := hlh
        have h4 : w.heap.size + 1 + 1 ≤ X.heap.size := by omega
        have h5 : X.heap.size ≤ w4.heap.size := Nat.le_trans (by simp) h2
        unfold Hid; omega
      clear FN hown4 hg4 hat4 hlt4 F5 HOX HOWN HRB HCX HKP hHeld FX BX
      go_wp2
      go_roundw
      case rel =>
        (repeat apply Exists.intro)
        exact ⟨⟨j + 1, some ⟨g, 0, none⟩, cap, _, l ++ [((⟨0, (j : Int), s1 - s2, false, d.pits, d.stores, (1-p.player)⟩ : Mk), ⟨ua, uc, some ⟨vg, 0, none⟩, vc⟩)], by go_num, by simp, by omega, by rw [HG.out, List.map_append, HGO.out, HM1.out]; rfl, HLH.out, HN.out⟩, rfl⟩
      case measure => (simp [intOf]; have := HKR.out; omega)


/-! ### SRes: the results of all legal moves: the reference's function. The contract holds for every argument, under the premises that it states. -/
/-- a round over the moves -/
structure RaSt (w wr : World) (r : R) (p : P) (j : Nat) (ad : Option Addr) (c hi : Nat) (l : List (Mk × MA)) : Prop where
  jl : (j : Int) ≤ r.pits
  go : l.map Prod.fst = allGo r p j
  lh : w.heap.size ≤ hi
  fr : Fr w wr [⟨w.heap.size, hi, MksP w.heap.size hi ad c l⟩]


/-! ### Can: whether there is a legal move: both functions. Each contract holds for every argument, under the premises that it states. -/
def canP (r : R) (p : P) : Bool := p.ok r && decide (0 < (allP r p).length)

/-! ### RsOf: the result of a move, out of the list of all: the program's functions. Each contract holds for every argument, under the premises that it states. -/
theorem allP_of {r : R} {p : P} {x : Mk} (h : x ∈ allP r p) : ∃ m : Nat, x = makeP r p m ∧ (makeP r p m).code = 0 ∧ x.move = m := by
  obtain ⟨m, _, hm⟩ := List.mem_filterMap.1 h
  unfold mkO at hm
  split at hm
  · rename_i hc
    have hx : makeP r p m = x := by simpa using hm
    refine ⟨m, hx.symm, hc, ?_⟩
    rw [← hx, makeP_ok (by rw [← makeP_code]; exact hc)]
  · cases hm
theorem allP_in {r : R} {p : P} {move : Int} (h : (doneP r p move).code = 0) : makeP r p move ∈ allP r p := by
  obtain ⟨hc0, L, n, ho⟩ := doneP_zero h
  obtain ⟨hok, ⟨h0, h1⟩, _⟩ := codeP_zero hc0
  obtain ⟨m, rfl⟩ : ∃ m : Nat, move = m := ⟨move.toNat, by omega⟩
  refine List.mem_filterMap.2 ⟨m, by simp; omega, ?_⟩
  unfold mkO
  rw [if_pos (by rw [makeP_code]; exact h)]
theorem makeP_bad {r : R} {p : P} {move c : Int} (h : (doneP r p move).code = c) (hc : ¬ c = 0) : makeP r p move = .bad c := by
  unfold makeP makeL
  rw [if_neg (by rw [h]; exact hc), h]

/-- a round over the results -/
structure RoSt (w wr : World) (l : List (Mk × MA)) (ad : Option Addr) (c hi : Nat) (move : Int) (k : Nat) : Prop where
  kl : k ≤ l.length
  no : ∀ j x, j < k → l[j]? = some x → ¬ x.1.move = move
  fr : Fr w wr [⟨w.heap.size + 1 + 1 + 1, hi, MksP (w.heap.size + 1 + 1 + 1) hi ad c l⟩, ⟨w.heap.size + 1 + 1, w.heap.size + 1 + 1 + 1, BoxF (w.heap.size + 1 + 1) [.int .i64 0, .int .i64 0, .bool false, .slice none 0 0, .slice none 0 0, .int .i64 0]⟩]
set_option maxRecDepth 100000 in
set_option maxHeartbeats 8000000 in
theorem resultOf_c (r : R) (p : P) (move : Int) (pa sa : Option Addr) (pc sc : Nat) (w : World) (h : PRow w p pa sa) (m1 : p.pits.length ≤ 16777216) (m2 : p.stores.length ≤ 16777216) (hc : p.pits.length ≤ pc) (hcm : pc ≤ maxLen) :
    Calls Try.prog 119 #[r.val, p.val pa pc sa sc, .int .i64 move] w (MkRes w (makeP r p move)) := by
  have F0 := (((Fr.start w).alloc r.cells 33).alloc (p.cells pa pc sa sc) 30).allocF #[.int .i64 0, .int .i64 0, .bool false, .slice none 0 0, .slice none 0 0, .int .i64 0] 144
  simp only [World.size_alloc] at F0
  have HC := Lib.hid (fun W (H : PRow W p pa sa) => iMoveFault_c r p move pa sa pc sc W H m1 m2 hc hcm)
  obtain ⟨y, hy⟩ : ∃ y, y = makeP r p move := ⟨_, rfl⟩
  rw [← hy]
  obtain ⟨k0, hk0⟩ : ∃ c, (doneP r p move).code = c := ⟨_, rfl⟩
  rw [hk0] at HC
  have HY := Lib.hid hy
  have HK0 := Lib.hid hk0
  clear hy hk0
  go_enter Try.func119, Try.ntmps119
  go_wp2_with fail
  refine (HC.out _ (h.below F0.below (Nat.le_refl _))).mono ?_
  rintro e w1 ⟨rfl, hb1⟩
  have F1 := F0.step hb1
  clear hb1 F0 HC
  by_cases hz : k0 = 0
  case neg =>
    have hz' : (k0 != 0) = true := by simpa using hz
    have HE := Lib.hid (HY.out.trans (makeP_bad HK0.out hz))
    obtain ⟨bx, bf⟩ := F1.at 0 rfl
    obtain ⟨x0, x1, x2, x3, x4, x5⟩ := (⟨bx 0 _ rfl, bx 1 _ rfl, bx 2 _ rfl, bx 3 _ rfl, bx 4 _ rfl, bx 5 _ rfl⟩ : _ ∧ _ ∧ _ ∧ _ ∧ _ ∧ _)
    have zC : w.heap.size + 1 + 1 < w1.heap.size := F1.le 0 rfl
    have B1 := F1.below
    clear hz bx F1
    go_wp2_with fail
    refine bodyPost_ret (v := .tuple #[(Mk.bad k0).val none 0 none 0, .int .i64 k0]) (by simp [results, Try.results119, go_sem, x0, x1, x2, x3, x4, x5, bf, zC, Mk.bad]) rfl ?_
    rw [HE.out]
    refine ⟨none, 0, none, 0, rfl, ⟨World.ownsRow_nil _ _ _ _, World.ownsRow_nil _ _ _ _, .inl rfl⟩, ?_⟩
    repeat (first | (with_reducible exact B1) | ((with_reducible refine Below.setCell ?_ ?_ _); rotate_left; (simp <;> omega)))
  have hz' : (k0 != 0) = false := by simpa using hz
  have hd0 : (doneP r p move).code = 0 := by rw [HK0.out]; exact hz
  have hok : p.ok r = true := (codeP_zero (doneP_zero hd0).1).1
  have HIN := Lib.hid (allP_in hd0)
  have HR := Lib.hid (results_c r p hok pa sa pc sc _ (h.below F1.below (Nat.le_refl _)) m1 m2 hc hcm)
  obtain ⟨c0, c1, c2, c3, c4, c5, c6, c7, c8⟩ := R.boxc (F1.at 2 rfl)
  obtain ⟨d0, d1, d2⟩ := P.boxc (F1.at 1 rfl)
  have zA : w.heap.size < w1.heap.size := F1.le 2 rfl
  have zB : w.heap.size + 1 < w1.heap.size := F1.le 1 rfl
  have HD0 := Lib.hid hd0
  clear hz hd0 hok h
  go_wp2_with fail
  refine HR.out.mono ?_
  rintro e w2 ⟨l, ad, c, hl, rfl, ho, hb2⟩
  have F2 := F1.step hb2
  have HL := Lib.hid hl
  have hz1 : w.heap.size + 1 + 1 + 1 ≤ w1.heap.size := F1.le 0 rfl
  have FB : Fr w w2 [⟨w.heap.size + 1 + 1 + 1, w2.heap.size, MksP (w.heap.size + 1 + 1 + 1) w2.heap.size ad c l⟩, ⟨w.heap.size + 1 + 1, w.heap.size + 1 + 1 + 1, BoxF (w.heap.size + 1 + 1) [.int .i64 0, .int .i64 0, .bool false, .slice none 0 0, .slice none 0 0, .int .i64 0]⟩] :=
    Fr.mks (ls := [⟨w.heap.size + 1 + 1, w.heap.size + 1 + 1 + 1, BoxF (w.heap.size + 1 + 1) [.int .i64 0, .int .i64 0, .bool false, .slice none 0 0, .slice none 0 0, .int .i64 0]⟩]) ⟨F2.below, fun x hx => F2.res x (by simp at hx; subst hx; simp)⟩ (ho.le hz1)
  have hST : Hid (RoSt w w2 l ad c w2.heap.size move 0) := ⟨Nat.zero_le _, fun j x hj => by omega, FB⟩
  have hlc : l.length ≤ maxLen := by
    rcases ho.row.2 with ⟨_, h2⟩ | ⟨g, cap, cur, hv, hb, hg, hn, hm, _⟩
    · omega
    · cases hv; omega
  clear hb2 hl ho F1 F2 FB c0 c1 c2 c3 c4 c5 c6 c7 c8 d0 d1 d2 HR zA zB hz1
  go_wp2_with fail
  go_loopw [23] (fun i wr => ∃ k : Nat, i = .int .i64 k ∧ RoSt w wr l ad c w2.heap.size move k) (fun i _ => l.length - (intOf i).toNat)
  case atStart => exact ⟨0, rfl, hST.out⟩
  case round =>
    clear hST
    obtain ⟨k, rfl, hst⟩ := hrel
    have F := hst.fr
    have HNO := Lib.hid hst.no
    have hkl := hst.kl
    clear hst
    by_cases hk : k < l.length
    case neg =>
      exfalso
      obtain ⟨x, hx, hxe⟩ := List.mem_map.1 (show makeP r p move ∈ l.map Prod.fst from by rw [HL.out]; exact HIN.out)
      obtain ⟨j, hj⟩ := List.getElem?_of_mem hx
      have hjl : j < l.length := by
        rcases Nat.lt_or_ge j l.length with h | h
        · exact h
        · rw [List.getElem?_eq_none h] at hj; cases hj
      refine HNO.out j x (by omega) hj ?_
      rw [hxe, makeP_ok HD0.out]
    obtain ⟨x, hx⟩ : ∃ x, l[k]? = some x := ⟨l[k], by simp [hk]⟩
    have HX := Lib.hid hx
    have HMP := Lib.hid (F.at 0 rfl)
    obtain ⟨g, rfl, hg1, hg2⟩ := own_lt_n (F.at 0 rfl).1.row (by omega : 0 < l.length)
    have hcell : ∀ j v, j < 6 → (x.1.cells x.2.pa x.2.pc x.2.sa x.2.sc).toList[j]? = some v → wr.cell? ⟨g, k * 6 + j, none⟩ = some v := fun j v hj hv => by
      rw [HMP.out.1.row.cellAt (k * 6 + j) (by show k * 6 + j < l.length * 6; omega), mcells_get l k j x hx hj]
      exact hv
    obtain ⟨q0, q1, q2, q3, q4, q5⟩ := (⟨hcell 0 _ (by omega) rfl, hcell 1 _ (by omega) rfl, hcell 2 _ (by omega) rfl, hcell 3 _ (by omega) rfl, hcell 4 _ (by omega) rfl, hcell 5 _ (by omega) rfl⟩ : _ ∧ _ ∧ _ ∧ _ ∧ _ ∧ _)
    rw [Nat.add_zero] at q0
    have hki : (k : Int) < (l.length : Int) := by omega
    have hkm : k ≤ maxLen := by omega
    have zW : w.heap.size + 1 + 1 < wr.heap.size := F.le 1 rfl
    obtain ⟨bx, bf⟩ := F.at 1 rfl
    obtain ⟨x0, x1, x2, x3, x4, x5⟩ := (⟨bx 0 _ rfl, bx 1 _ rfl, bx 2 _ rfl, bx 3 _ rfl, bx 4 _ rfl, bx 5 _ rfl⟩ : _ ∧ _ ∧ _ ∧ _ ∧ _ ∧ _)
    clear hx hcell bx
    by_cases hm : x.1.move = move
    · have hm' : (x.1.move == move) = true := by simpa using hm
      have HM := Lib.hid hm
      clear hm
      have hPO := (HMP.out.1.items x (List.mem_of_getElem? HX.out)).1
      have hxy : x.1 = y := by
        have h1 : x.1 ∈ allP r p := by rw [← HL.out]; exact List.mem_map_of_mem (List.mem_of_getElem? HX.out)
        obtain ⟨m', h2, h3, h4⟩ := allP_of h1
        rw [h2, HY.out, show (m' : Int) = move from by rw [← h4]; exact HM.out]
      have hcy : y.code = 0 := by rw [HY.out, makeP_code]; exact HD0.out
      have HXY := Lib.hid (⟨hPO, hxy, hcy⟩ : _ ∧ _ ∧ _)
      have BW := F.below
      have hzw := BW.size
      clear hPO hxy hcy F
      go_wp2_with fail
      refine bodyPost_ret (v := .tuple #[x.1.val x.2.pa x.2.pc x.2.sa x.2.sc, .int .i64 0]) (by simp [results, Try.results119, go_sem, x0, x1, x2, x3, x4, x5, bf, zW]) rfl ?_
      obtain ⟨hPO, hxy, hcy⟩ := HXY.out
      subst hxy
      refine ⟨x.2.pa, x.2.pc, x.2.sa, x.2.sc, by rw [hcy], ⟨?_, ?_, hPO.apart⟩, ?_⟩
      · have k0 := hPO.pits
        dsimp only at k0 ⊢
        refine ownsRow_le (base := w.heap.size + 1 + 1 + 1) ?_ (by omega)
        repeat (first | (with_reducible exact k0) | (with_reducible refine World.ownsRow.alloc ?_ _) | ((with_reducible refine ownsRow_setCell_below ?_ ?_ _); rotate_left; (simp <;> omega)))
      · have k0 := hPO.stores
        dsimp only at k0 ⊢
        refine ownsRow_le (base := w.heap.size + 1 + 1 + 1) ?_ (by omega)
        repeat (first | (with_reducible exact k0) | (with_reducible refine World.ownsRow.alloc ?_ _) | ((with_reducible refine ownsRow_setCell_below ?_ ?_ _); rotate_left; (simp <;> omega)))
      · repeat (first | (with_reducible exact BW) | ((with_reducible refine Below.setCell ?_ ?_ _); rotate_left; (simp <;> omega)) | ((with_reducible refine Below.alloc ?_ ?_ _); rotate_left; (first | omega | (simp <;> omega))))
    · have hm' : (x.1.move == move) = false := by simpa using hm
      have HM := Lib.hid hm
      have hnum : wrap64 ((k : Int) + 1) = ((k + 1 : Nat) : Int) := by
        have hkm2 := hlc
        unfold maxLen at hkm2
        have h1 : wrap64 ((k : Int) + 1) = (k : Int) + 1 := by unfold wrap64; omega
        rw [h1]; simp
      have HNUM := Lib.hid hnum
      clear hm hnum
      go_wp2
      go_roundw
      case rel =>
        refine ⟨k + 1, by rw [HNUM.out], by omega, fun j x' hj hx' => ?_, F.step (below_alloc1 _ _)⟩
        rcases Nat.lt_or_ge j k with h1 | h1
        · exact HNO.out j x' h1 hx'
        · obtain rfl : j = k := by omega
          have h2 := HX.out
          rw [hx'] at h2
          cases h2
          exact HM.out
      case measure => (rw [HNUM.out]; simp [intOf]; omega)


end Go.Proofs.Ytbjgigdkbjabaaa
