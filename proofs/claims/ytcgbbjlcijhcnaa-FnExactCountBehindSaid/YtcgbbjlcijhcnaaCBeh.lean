/- CBeh: how many lines there are behind some moves: both sides. Each contract holds for every argument, under the premises that it states. -/
import Derived.Test.YtcgbbjlcijhcnaaSCnt
import Derived.Test.YtcgbbjlcijhcnaaOwn
namespace Go.Proofs.Ytcgbbjlcijhcnaa
set_option linter.unusedSimpArgs false
set_option linter.unusedVariables false
set_option linter.unnecessarySimpa false
open Go.RowKit Go.ChangeShapes Go.WideShapes Go.ChangeAt Go.Joins

def behGo (r : R) : P → List Int → P × Int
  | q, [] => (q, 0)
  | q, m :: ms => if (makeP r q m).code = 0 then behGo r (nxt (makeP r q m)) ms else (q, (makeP r q m).code)
def behP (r : R) (p : P) (ms : List Int) (d : Int) : Int × Int :=
  if p.ok r = true then (if ms.length > 8 then (0, 2) else if (behGo r p ms).2 = 0 then clinesP r (behGo r p ms).1 d else (0, (behGo r p ms).2)) else (0, 1)
/-- a round over the moves -/
structure BhSt (w wr : World) (B : Nat) (r : R) (ms : List Int) (tgt : P × Int) (k : Nat) (q : P) (qa : Option Addr) (qc : Nat) (ta : Option Addr) (tc : Nat) : Prop where
  kl : k ≤ ms.length
  go : behGo r q (ms.drop k) = tgt
  lv : LvP wr B q qa qc ta tc
  rx : BoxP w.heap.size r.cells.toList wr
  below : Below w.heap.size w wr

set_option maxRecDepth 100000 in
set_option maxHeartbeats 8000000 in
theorem iCountBehind_c (r : R) (p : P) (ms : List Int) (d : Int) (pa sa ma : Option Addr) (pc sc mc : Nat) (w : World) (h : PRow w p pa sa) (hms : Ints w ma ms) (hml : ms.length ≤ maxLen) (m1 : p.pits.length ≤ 16777216) (m2 : p.stores.length ≤ 16777216) (hc : p.pits.length ≤ pc) (hcm : pc ≤ maxLen) :
    Calls Try.prog 49 #[r.val, p.val pa pc sa sc, .slice ma ms.length mc, .int .i64 d] w fun e w' => e = .returned (.tuple #[.int .i64 (behP r p ms d).1, .int .i64 (behP r p ms d).2]) ∧ Below w.heap.size w w' := by
  have F0 := ((Fr.start w).alloc r.cells 31).allocF (p.cells pa pc sa sc) 28
  simp only [World.size_alloc] at F0
  have HV := ValidPosition_c r p pa sa pc sc _ (h.below F0.below (Nat.le_refl _)) m1 m2
  obtain ⟨y, hy⟩ : ∃ y, y = behP r p ms d := ⟨_, rfl⟩
  rw [← hy]
  cases hok : p.ok r
  · rw [hok] at HV
    have HV := Lib.hid HV
    have HE : Hid (y = (0, 1)) := by unfold Hid; rw [hy, behP, hok]; rfl
    clear hok hy
    go_enter Try.func49, Try.ntmps49
    go_wp2_with fail
    refine HV.out.mono ?_
    rintro e w1 ⟨rfl, hb1⟩
    have F1 := F0.step hb1
    clear F0 hb1 HV
    go_wp2
    go_ret2
    rw [HE.out]
    exact ⟨rfl, F1.below⟩
  rw [hok] at HV
  have HV := Lib.hid HV
  have HE : Hid (y = if ms.length > 8 then (0, 2) else if (behGo r p ms).2 = 0 then clinesP r (behGo r p ms).1 d else (0, (behGo r p ms).2)) := by unfold Hid; rw [hy, behP, hok]; rfl
  have HLP : Hid (0 < p.pits.length ∧ 0 < p.stores.length) := by
    obtain ⟨hbd, _, t, hB, _, _⟩ := P.ok_parts hok
    have := hbd.lo; have := hB.lp; have := hB.ls
    unfold Hid; omega
  clear hok hy
  go_enter Try.func49, Try.ntmps49
  go_wp2_with fail
  refine HV.out.mono ?_
  rintro e w1 ⟨rfl, hb1⟩
  have F1 := F0.step hb1
  clear F0 hb1 HV
  by_cases hl8 : ms.length > 8
  · have hl8' : (ms.length : Int) > 8 := by omega
    have HE2 := Lib.hid (HE.out.trans (if_pos hl8))
    clear hl8
    go_wp2
    go_ret2
    rw [HE2.out]
    exact ⟨rfl, F1.below⟩
  have hl8' : ¬ (ms.length : Int) > 8 := by omega
  have HE2 := Lib.hid (HE.out.trans (if_neg hl8))
  obtain ⟨tgt, htg⟩ : ∃ tgt, tgt = behGo r p ms := ⟨_, rfl⟩
  rw [← htg] at HE2
  have HTG := Lib.hid htg
  have HMS := Lib.hid hms
  have hm8 : ms.length ≤ 8 := by omega
  obtain ⟨bx, bf⟩ := F1.at 0 rfl
  have hst0 : Hid (BhSt w w1 (w.heap.size + 1) r ms tgt 0 p pa pc sa sc) := ⟨Nat.zero_le _, HTG.out.symm, ⟨bx 0 _ rfl, bx 1 _ rfl, bx 2 _ rfl, bf, (arg_rowN h.pits HLP.out.1 (Nat.le_succ _)).below F1.below (Nat.le_refl _), (arg_rowN h.stores HLP.out.2 (Nat.le_succ _)).below F1.below (Nat.le_refl _), m1, m2, hc, hcm⟩, F1.at 1 rfl, F1.below⟩
  clear hl8 bx bf F1 HE hms h htg
  go_wp2_with fail
  go_loopw [23] (fun i wr => ∃ (k : Nat) (q : P) (qa ta : Option Addr) (qc tc : Nat), i = .int .i64 k ∧ BhSt w wr (w.heap.size + 1) r ms tgt k q qa qc ta tc) (fun i _ => ms.length - (intOf i).toNat)
  case atStart => exact ⟨0, p, pa, sa, pc, sc, rfl, hst0.out⟩
  case round =>
    clear hst0
    obtain ⟨k, q, qa, ta, qc, tc, rfl, hst⟩ := hrel
    have HST := Lib.hid hst
    have hkl := hst.kl
    clear hst
    obtain ⟨c0, c1, c2, c3, c4, c5, c6, c7, c8⟩ := R.boxc HST.out.rx
    obtain ⟨d0, d1, d2⟩ := (⟨HST.out.lv.c0, HST.out.lv.c1, HST.out.lv.c2⟩ : _ ∧ _ ∧ _)
    have hw1 : w.heap.size + 1 < wr.heap.size := World.block_lt_of_cell? wr _ d0
    have hw0 : w.heap.size < wr.heap.size := World.block_lt_of_cell? wr _ c0
    by_cases hk : k < ms.length
    case neg =>
      have hki : ¬ (k : Int) < (ms.length : Int) := by omega
      have HT : Hid (tgt = (q, 0)) := by
        have h1 := HST.out.go
        rw [List.drop_eq_nil_of_le (by omega)] at h1
        exact h1.symm
      have HY : Hid (y = clinesP r q d) := by unfold Hid; rw [HE2.out, HT.out]; rfl
      have HC := Lib.hid (iCountLines_c r q d qa ta qc tc wr ⟨HST.out.lv.p.1, HST.out.lv.s.1⟩ HST.out.lv.m1 HST.out.lv.m2 HST.out.lv.hc HST.out.lv.hcm)
      rw [← HY.out] at HC
      go_wp2_with fail
      refine HC.out.mono ?_
      rintro e w2 ⟨rfl, hb2⟩
      have HB := Lib.hid (below_next HST.out.below hb2)
      clear hb2
      go_wp2
      go_ret2
      exact ⟨rfl, HB.out⟩
    obtain ⟨mv, hmv⟩ : ∃ mv, mv = ms[k] := ⟨_, rfl⟩
    obtain ⟨mb, mo, hma, hmb, hmcs⟩ := Ints.open HMS.out (by omega)
    have hcm2 : wr.cell? ⟨mb, mo + k, none⟩ = some (.int .i64 mv) := (HST.out.below.cell (show (Addr.mk mb (mo + k) none).block < _ from hmb)).trans (by rw [hmv]; exact hmcs k hk)
    obtain ⟨z, hz⟩ : ∃ z, z = makeP r q mv := ⟨_, rfl⟩
    have HGO : Hid (tgt = if z.code = 0 then behGo r (nxt z) (ms.drop (k + 1)) else (q, z.code)) := by
      have h1 := HST.out.go
      rw [List.drop_eq_getElem_cons hk, ← hmv] at h1
      rw [hz]
      exact h1.symm
    have HGN : Hid (z.code = 0 → 0 ≤ z.gain ∧ z.gain ≤ 2000 ∧ z.pits.length ≤ 16777216 ∧ z.stores.length ≤ 16777216) := fun hh => by rw [hz] at hh ⊢; exact makeP_gain hh
    have HR := Lib.hid (resultOf_c r q mv qa ta qc tc wr ⟨HST.out.lv.p.1, HST.out.lv.s.1⟩ HST.out.lv.m1 HST.out.lv.m2 HST.out.lv.hc HST.out.lv.hcm)
    rw [← hz] at HR
    have hki : (k : Int) < (ms.length : Int) := by omega
    subst hma
    clear hmv hmcs hz
    go_wp2_with fail
    refine HR.out.mono ?_
    rintro e w2 ⟨ua, uc, va, vc, rfl, ho, hb2⟩
    have hs2 := hb2.size
    have L2 := HST.out.lv.below hb2
    have BW2 : Below w.heap.size w w2 := below_next HST.out.below hb2
    have RX2 : BoxP w.heap.size r.cells.toList w2 := HST.out.rx.below hb2
    obtain ⟨d0, d1, d2⟩ := (⟨L2.c0, L2.c1, L2.c2⟩ : _ ∧ _ ∧ _)
    have hfz := L2.fz
    have hw2 : w.heap.size + 1 < w2.heap.size := by omega
    have hw2a : w.heap.size < w2.heap.size := by omega
    have HX := Lib.hid (⟨L2, BW2, RX2, ho⟩ : _ ∧ _ ∧ _ ∧ _)
    clear L2 BW2 RX2 ho hb2 HR c0 c1 c2 c3 c4 c5 c6 c7 c8
    by_cases hzc : z.code = 0
    case neg =>
      have hzc' : (z.code != 0) = true := by simpa using hzc
      have HY : Hid (y = (0, z.code)) := by unfold Hid; rw [HE2.out, HGO.out.trans (if_neg hzc), if_neg hzc]
      clear hzc
      go_wp2
      go_ret2
      rw [HY.out]
      exact ⟨rfl, HX.out.2.1.alloc (Nat.le_of_lt hw2a) _⟩
    have hzc' : (z.code != 0) = false := by simpa using hzc
    have HT := Lib.hid (HGO.out.trans (if_pos hzc))
    obtain ⟨g0, g1, g2, g3⟩ := HGN.out hzc
    clear hzc HGN HGO
    go_wp2
    go_roundw
    case rel =>
      obtain ⟨L2, BW2, RX2, ho⟩ := HX.out
      have L3 := L2.store (y := nxt z) ho hw1 g2 g3
      have R3 := (((RX2.set (B := w.heap.size + 1) (by omega) 0 (.slice ua z.pits.length uc)).set (B := w.heap.size + 1) (by omega) 1 (.slice va z.stores.length vc)).set (B := w.heap.size + 1) (by omega) 2 (.int .i64 z.player))
      refine ⟨k + 1, nxt z, ua, va, uc, vc, by go_num, by omega, HT.out.symm, L3.below (below_alloc1 _ _), R3.below (below_alloc1 _ _), ?_⟩
      repeat (first | (with_reducible exact BW2) | ((with_reducible refine Below.alloc ?_ ?_ _); rotate_left; (first | omega | (simp <;> omega))) | ((with_reducible refine Below.setCell ?_ ?_ _); rotate_left; (simp <;> omega)))
    case measure => (simp [intOf]; omega)

set_option maxRecDepth 100000 in
set_option maxHeartbeats 8000000 in
theorem sCountBehind_c (r : R) (p : P) (ms : List Int) (d : Int) (pa sa ma : Option Addr) (pc sc mc : Nat) (w : World) (h : PRow w p pa sa) (hms : Ints w ma ms) (hml : ms.length ≤ maxLen) (m1 : p.pits.length ≤ 16777216) (m2 : p.stores.length ≤ 16777216) (hc : p.pits.length ≤ pc) (hcm : pc ≤ maxLen) :
    Calls Try.prog 47 #[r.val, p.val pa pc sa sc, .slice ma ms.length mc, .int .i64 d] w fun e w' => e = .returned (.tuple #[.int .i64 (behP r p ms d).1, .int .i64 (behP r p ms d).2]) ∧ Below w.heap.size w w' := by
  have F0 := ((Fr.start w).alloc r.cells 31).allocF (p.cells pa pc sa sc) 28
  simp only [World.size_alloc] at F0
  have hr := R.boxc (F0.at 1 rfl)
  have hp : P.At _ (w.heap.size + 1) 0 p pa pc sa sc := ⟨(F0.at 0 rfl).1 0 _ rfl, (F0.at 0 rfl).1 1 _ rfl, (F0.at 0 rfl).1 2 _ rfl⟩
  have HV := (l04Ok_c _ _ _ _ r p pa sa pc sc _ hr hp (h.below F0.below (Nat.le_refl _)) m1 m2).mono (R' := fun e w' => e = .returned (.bool (p.ok r)) ∧ Below (w.heap.size + 1 + 1) ((w.alloc (.cells r.cells 31)).alloc (.cells (p.cells pa pc sa sc) 28)) w') fun e w' ⟨he, m, hm⟩ => ⟨he, hm ▸ below_draws _ _ m⟩
  obtain ⟨y, hy⟩ : ∃ y, y = behP r p ms d := ⟨_, rfl⟩
  rw [← hy]
  cases hok : p.ok r
  · rw [hok] at HV
    have HV := Lib.hid HV
    have HE : Hid (y = (0, 1)) := by unfold Hid; rw [hy, behP, hok]; rfl
    clear hok hy hr hp
    go_enter Try.func47, Try.ntmps47
    go_wp2_with fail
    refine HV.out.mono ?_
    rintro e w1 ⟨rfl, hb1⟩
    have F1 := F0.step (w' := w1) (by simpa using hb1)
    clear F0 hb1 HV
    go_wp2
    go_ret2
    rw [HE.out]
    exact ⟨rfl, F1.below⟩
  rw [hok] at HV
  have HV := Lib.hid HV
  have HE : Hid (y = if ms.length > 8 then (0, 2) else if (behGo r p ms).2 = 0 then clinesP r (behGo r p ms).1 d else (0, (behGo r p ms).2)) := by unfold Hid; rw [hy, behP, hok]; rfl
  have HLP : Hid (0 < p.pits.length ∧ 0 < p.stores.length) := by
    obtain ⟨hbd, _, t, hB, _, _⟩ := P.ok_parts hok
    have := hbd.lo; have := hB.lp; have := hB.ls
    unfold Hid; omega
  clear hok hy hr hp
  go_enter Try.func47, Try.ntmps47
  go_wp2_with fail
  refine HV.out.mono ?_
  rintro e w1 ⟨rfl, hb1⟩
  have F1 := F0.step (w' := w1) (by simpa using hb1)
  clear F0 hb1 HV
  by_cases hl8 : ms.length > 8
  · have hl8' : (ms.length : Int) > 8 := by omega
    have HE2 := Lib.hid (HE.out.trans (if_pos hl8))
    clear hl8
    go_wp2
    go_ret2
    rw [HE2.out]
    exact ⟨rfl, F1.below⟩
  have hl8' : ¬ (ms.length : Int) > 8 := by omega
  have HE2 := Lib.hid (HE.out.trans (if_neg hl8))
  obtain ⟨tgt, htg⟩ : ∃ tgt, tgt = behGo r p ms := ⟨_, rfl⟩
  rw [← htg] at HE2
  have HTG := Lib.hid htg
  have HMS := Lib.hid hms
  have hm8 : ms.length ≤ 8 := by omega
  obtain ⟨bx, bf⟩ := F1.at 0 rfl
  have hpx : P.At w1 (w.heap.size + 1) 0 p pa pc sa sc := ⟨bx 0 _ rfl, bx 1 _ rfl, bx 2 _ rfl⟩
  have HO := Lib.hid (l04Own_c _ _ p pa sa pc sc w1 hpx (h.below F1.below (Nat.le_refl _)) m1 m2)
  have zA : w.heap.size + 1 < w1.heap.size := F1.le 0 rfl
  clear hl8 bx bf HE hms h htg hpx HLP
  go_wp2_with fail
  refine HO.out.mono ?_
  rintro e w2 ⟨qa0, qc0, ta0, tc0, rfl, ho, hb2⟩
  have F2 := F1.step hb2
  have FB := F2.allocF (p.cells qa0 qc0 ta0 tc0) 28
  obtain ⟨bx, bf⟩ := FB.at 0 rfl
  have hcp := own_caps ho.pits
  have hs2 := hb2.size
  obtain ⟨S, hS⟩ : ∃ S, S = w2.heap.size := ⟨_, rfl⟩
  have hzS : w.heap.size + 1 < S := by omega
  have hzS0 : w.heap.size < S := by omega
  have BW := below_alloc1 w2 (.cells (p.cells qa0 qc0 ta0 tc0) 28)
  have n1 : RowN S (w2.alloc (.cells (p.cells qa0 qc0 ta0 tc0) 28)) qa0 p.pits := ⟨(own_row ho.pits).below BW (Nat.le_refl _), fun b o t e e2 => by subst e; have := (ho.pits.lt b rfl).2; omega⟩
  have n2 : RowN S (w2.alloc (.cells (p.cells qa0 qc0 ta0 tc0) 28)) ta0 p.stores := ⟨(own_row ho.stores).below BW (Nat.le_refl _), fun b o t e e2 => by subst e; have := (ho.stores.lt b rfl).2; omega⟩
  rw [← hS] at bx bf
  have hst0 : Hid (BhSt w (w2.alloc (.cells (p.cells qa0 qc0 ta0 tc0) 28)) S r ms tgt 0 p qa0 qc0 ta0 tc0) := ⟨Nat.zero_le _, HTG.out.symm, ⟨bx 0 _ rfl, bx 1 _ rfl, bx 2 _ rfl, bf, n1, n2, m1, m2, hcp.1, hcp.2⟩, FB.at 2 rfl, FB.below⟩
  have HSE := Lib.hid hS
  clear hb2 ho F1 F2 FB bx bf n1 n2 hcp HO hS BW
  go_wp2_with fail
  simp only [← HSE.out]
  go_loopw [11] (fun i wr => ∃ (k : Nat) (q : P) (qa ta : Option Addr) (qc tc : Nat), i = .int .i64 k ∧ BhSt w wr S r ms tgt k q qa qc ta tc) (fun i _ => ms.length - (intOf i).toNat)
  case atStart => exact ⟨0, p, qa0, ta0, qc0, tc0, rfl, hst0.out⟩
  case round =>
    clear hst0
    obtain ⟨k, q, qa, ta, qc, tc, rfl, hst⟩ := hrel
    have HST := Lib.hid hst
    have hkl := hst.kl
    clear hst
    obtain ⟨c0, c1, c2, c3, c4, c5, c6, c7, c8⟩ := R.boxc HST.out.rx
    obtain ⟨d0, d1, d2⟩ := (⟨HST.out.lv.c0, HST.out.lv.c1, HST.out.lv.c2⟩ : _ ∧ _ ∧ _)
    have hw1 : S < wr.heap.size := World.block_lt_of_cell? wr _ d0
    have hw0 : w.heap.size < wr.heap.size := World.block_lt_of_cell? wr _ c0
    by_cases hk : k < ms.length
    case neg =>
      have hki : ¬ (k : Int) < (ms.length : Int) := by omega
      have HT : Hid (tgt = (q, 0)) := by
        have h1 := HST.out.go
        rw [List.drop_eq_nil_of_le (by omega)] at h1
        exact h1.symm
      have HY : Hid (y = clinesP r q d) := by unfold Hid; rw [HE2.out, HT.out]; rfl
      have HC := Lib.hid (sCountLines_c r q d qa ta qc tc wr ⟨HST.out.lv.p.1, HST.out.lv.s.1⟩ HST.out.lv.m1 HST.out.lv.m2)
      rw [← HY.out] at HC
      go_wp2_with fail
      refine HC.out.mono ?_
      rintro e w2 ⟨rfl, hb2⟩
      have HB := Lib.hid (below_next HST.out.below hb2)
      clear hb2
      go_wp2
      go_ret2
      exact ⟨rfl, HB.out⟩
    obtain ⟨mv, hmv⟩ : ∃ mv, mv = ms[k] := ⟨_, rfl⟩
    obtain ⟨mb, mo, hma, hmb, hmcs⟩ := Ints.open HMS.out (by omega)
    have hcm2 : wr.cell? ⟨mb, mo + k, none⟩ = some (.int .i64 mv) := (HST.out.below.cell (show (Addr.mk mb (mo + k) none).block < _ from hmb)).trans (by rw [hmv]; exact hmcs k hk)
    obtain ⟨z, hz⟩ : ∃ z, z = makeP r q mv := ⟨_, rfl⟩
    have HGO : Hid (tgt = if z.code = 0 then behGo r (nxt z) (ms.drop (k + 1)) else (q, z.code)) := by
      have h1 := HST.out.go
      rw [List.drop_eq_getElem_cons hk, ← hmv] at h1
      rw [hz]
      exact h1.symm
    have HGN : Hid (z.code = 0 → 0 ≤ z.gain ∧ z.gain ≤ 2000 ∧ z.pits.length ≤ 16777216 ∧ z.stores.length ≤ 16777216) := fun hh => by rw [hz] at hh ⊢; exact makeP_gain hh
    have hrx := R.boxc HST.out.rx
    have hpx : P.At wr S 0 q qa qc ta tc := ⟨HST.out.lv.c0, HST.out.lv.c1, HST.out.lv.c2⟩
    have HR := Lib.hid (l07Make_c w.heap.size 0 S 0 r q mv qa ta qc tc wr hrx hpx ⟨HST.out.lv.p.1, HST.out.lv.s.1⟩ HST.out.lv.m1 HST.out.lv.m2)
    rw [← hz] at HR
    have hki : (k : Int) < (ms.length : Int) := by omega
    subst hma
    clear hmv hmcs hz hrx hpx
    go_wp2_with fail
    refine HR.out.mono ?_
    rintro e w2 ⟨ua, uc, va, vc, rfl, ho, hb2⟩
    have hs2 := hb2.size
    have L2 := HST.out.lv.below hb2
    have BW2 : Below w.heap.size w w2 := below_next HST.out.below hb2
    have RX2 : BoxP w.heap.size r.cells.toList w2 := HST.out.rx.below hb2
    obtain ⟨d0, d1, d2⟩ := (⟨L2.c0, L2.c1, L2.c2⟩ : _ ∧ _ ∧ _)
    have hfz := L2.fz
    have hw2 : S < w2.heap.size := by omega
    have hw2a : w.heap.size < w2.heap.size := by omega
    have HX := Lib.hid (⟨L2, BW2, RX2, ho⟩ : _ ∧ _ ∧ _ ∧ _)
    clear L2 BW2 RX2 ho hb2 HR c0 c1 c2 c3 c4 c5 c6 c7 c8
    by_cases hzc : z.code = 0
    case neg =>
      have hzc' : (z.code != 0) = true := by simpa using hzc
      have HY : Hid (y = (0, z.code)) := by unfold Hid; rw [HE2.out, HGO.out.trans (if_neg hzc), if_neg hzc]
      clear hzc
      go_wp2
      go_ret2
      rw [HY.out]
      exact ⟨rfl, HX.out.2.1.alloc (Nat.le_of_lt hw2a) _⟩
    have hzc' : (z.code != 0) = false := by simpa using hzc
    have HT := Lib.hid (HGO.out.trans (if_pos hzc))
    obtain ⟨g0, g1, g2, g3⟩ := HGN.out hzc
    clear hzc HGN HGO
    go_wp2
    go_roundw
    case rel =>
      obtain ⟨L2, BW2, RX2, ho⟩ := HX.out
      have L3 := L2.store (y := nxt z) ho hw1 g2 g3
      have R3 := (((RX2.set (B := S) (by omega) 0 (.slice ua z.pits.length uc)).set (B := S) (by omega) 1 (.slice va z.stores.length vc)).set (B := S) (by omega) 2 (.int .i64 z.player))
      refine ⟨k + 1, nxt z, ua, va, uc, vc, by go_num, by omega, HT.out.symm, L3.below (below_alloc1 _ _), R3.below (below_alloc1 _ _), ?_⟩
      repeat (first | (with_reducible exact BW2) | ((with_reducible refine Below.alloc ?_ ?_ _); rotate_left; (first | omega | (simp <;> omega))) | ((with_reducible refine Below.setCell ?_ ?_ _); rotate_left; (simp <;> omega)))
    case measure => (simp [intOf]; omega)


end Go.Proofs.Ytcgbbjlcijhcnaa
