/- Line: the value of a line of moves: both functions. Each contract holds for every argument, under the premises that it states. -/
import Derived.Test.YtmadcifcbckcnaaGreed
import Derived.Test.YtmadcifcbckcnaaStored
namespace Go.Proofs.Ytmadcifcbckcnaa
set_option linter.unusedSimpArgs false
set_option linter.unusedVariables false
set_option linter.unnecessarySimpa false
open Go.RowKit Go.ChangeShapes Go.WideShapes Go.ChangeAt Go.Joins

def lineGo (r : R) (pl : Int) : P → Int → List Int → Int × Int
  | _, s, [] => (s, 0)
  | q, s, m :: ms => if (makeP r q m).code = 0 then lineGo r pl ⟨(makeP r q m).pits, (makeP r q m).stores, (makeP r q m).player⟩ (if q.player = pl then s + (makeP r q m).gain else s - (makeP r q m).gain) ms else (0, (makeP r q m).code)
def lineP (r : R) (p : P) (ms : List Int) : Int × Int := if p.ok r = true then (if ms.length > 8 then (0, 2) else lineGo r p.player p 0 ms) else (0, 1)
theorem makeP_gain {r : R} {q : P} {m : Int} (h : (makeP r q m).code = 0) : 0 ≤ (makeP r q m).gain ∧ (makeP r q m).gain ≤ 2000 ∧ (makeP r q m).pits.length ≤ 16777216 ∧ (makeP r q m).stores.length ≤ 16777216 := by
  have hd : (doneP r q m).code = 0 := by rw [← makeP_code]; exact h
  have h1 := doneP_gain hd q.player.toNat
  obtain ⟨f1, f2, f3, f4, f5⟩ := doneP_facts hd
  have h3 := f3 q.player.toNat
  have h4 := f4 q.player.toNat
  rw [makeP_ok hd]
  simp only
  omega
/-- a row that doesn't lie in block B -/
def RowN (B : Nat) (w : World) (a : Option Addr) (xs : List Int) : Prop := Ints w a xs ∧ ∀ b o t, a = some ⟨b, o, t⟩ → ¬ b = B
theorem RowN.below {B C : Nat} {w w' : World} {a : Option Addr} {xs : List Int} (h : RowN B w a xs) (hb : Below C w w') (hC : w.heap.size ≤ C) : RowN B w' a xs := ⟨h.1.below hb hC, h.2⟩
theorem RowN.set {B : Nat} {w : World} {a : Option Addr} {xs : List Int} (h : RowN B w a xs) (i : Nat) (v : Value) : RowN B (w.setCell ⟨B, i, none⟩ v) a xs := by
  refine ⟨fun j u hu => ?_, h.2⟩
  obtain ⟨b, o, ha, hc⟩ := h.1 j u hu
  refine ⟨b, o, ha, ?_⟩
  rw [World.cell?_setCell_other]
  · exact hc
  · intro e; cases e; exact h.2 _ _ _ ha rfl
theorem own_rowN {B base : Nat} {w : World} {c : Nat} {a : Option Addr} {xs : List Int} (h : OwnI w base a c xs) (hb : B < base) : RowN B w a xs := by
  refine ⟨own_row h, fun b o t ha e => ?_⟩
  subst ha
  have := (h.lt b rfl).1
  omega
theorem arg_rowN {B : Nat} {w : World} {a : Option Addr} {xs : List Int} (h : Ints w a xs) (hx : 0 < xs.length) (hB : w.heap.size ≤ B) : RowN B w a xs := by
  obtain ⟨b, o, rfl, hb, _⟩ := Ints.open h hx
  refine ⟨h, fun b' o' t ha e => ?_⟩
  cases ha
  omega
/-- the position at hand: its box, block B, and its rows elsewhere -/
structure LvP (w : World) (B : Nat) (q : P) (qa : Option Addr) (qc : Nat) (ta : Option Addr) (tc : Nat) : Prop where
  c0 : w.cell? ⟨B, 0, none⟩ = some (.slice qa q.pits.length qc)
  c1 : w.cell? ⟨B, 1, none⟩ = some (.slice ta q.stores.length tc)
  c2 : w.cell? ⟨B, 2, none⟩ = some (.int .i64 q.player)
  fz : ∀ o, w.frozen? ⟨B, o, none⟩ = false
  p : RowN B w qa q.pits
  s : RowN B w ta q.stores
  m1 : q.pits.length ≤ 16777216
  m2 : q.stores.length ≤ 16777216
  hc : q.pits.length ≤ qc
  hcm : qc ≤ maxLen
theorem LvP.below {w w' : World} {B : Nat} {q : P} {qa ta : Option Addr} {qc tc : Nat} (h : LvP w B q qa qc ta tc) (hb : Below w.heap.size w w') : LvP w' B q qa qc ta tc := by
  have hB : B < w.heap.size := World.block_lt_of_cell? w _ h.c0
  exact ⟨(hb.cell (show (Addr.mk B 0 none).block < _ from hB)).trans h.c0, (hb.cell (show (Addr.mk B 1 none).block < _ from hB)).trans h.c1, (hb.cell (show (Addr.mk B 2 none).block < _ from hB)).trans h.c2, fun o => (hb.frozen (show (Addr.mk B o none).block < _ from hB)).trans (h.fz o), h.p.below hb (Nat.le_refl _), h.s.below hb (Nat.le_refl _), h.m1, h.m2, h.hc, h.hcm⟩
theorem LvP.store {w : World} {B base : Nat} {q : P} {qa ta : Option Addr} {qc tc : Nat} (h : LvP w B q qa qc ta tc) {y : P} {ua va : Option Addr} {uc vc : Nat} (ho : POwn w base y ua uc va vc) (hb : B < base) (m1 : y.pits.length ≤ 16777216) (m2 : y.stores.length ≤ 16777216) :
    LvP (((w.setCell ⟨B, 0, none⟩ (.slice ua y.pits.length uc)).setCell ⟨B, 1, none⟩ (.slice va y.stores.length vc)).setCell ⟨B, 2, none⟩ (.int .i64 y.player)) B y ua uc va vc := by
  have hcp := own_caps ho.pits
  refine ⟨?_, ?_, ?_, fun o => ?_, (((own_rowN ho.pits hb).set _ _).set _ _).set _ _, (((own_rowN ho.stores hb).set _ _).set _ _).set _ _, m1, m2, hcp.1, hcp.2⟩
  · rw [cell_off (by omega), cell_off (by omega)]; exact World.cell?_setCell_same _ _ _ h.c0
  · rw [cell_off (by omega)]; refine World.cell?_setCell_same _ _ (u := .slice ta q.stores.length tc) _ ?_; rw [cell_off (by omega)]; exact h.c1
  · refine World.cell?_setCell_same _ _ (u := .int .i64 q.player) _ ?_; rw [cell_off (by omega), cell_off (by omega)]; exact h.c2
  · simp [h.fz]
theorem BoxP.set {w : World} {g B : Nat} {cs : List Value} (h : BoxP g cs w) (hn : ¬ g = B) (i : Nat) (v : Value) : BoxP g cs (w.setCell ⟨B, i, none⟩ v) := fun j u hu => (cell_other hn).trans (h j u hu)
/-- a round over the moves -/
structure LvSt (w wr : World) (r : R) (pl : Int) (ms : List Int) (tgt : Int × Int) (k : Nat) (s : Int) (q : P) (qa : Option Addr) (qc : Nat) (ta : Option Addr) (tc : Nat) : Prop where
  kl : k ≤ ms.length
  go : lineGo r pl q s (ms.drop k) = tgt
  s0 : -2000 * (k : Int) ≤ s
  s1 : s ≤ 2000 * (k : Int)
  lv : LvP wr (w.heap.size + 1) q qa qc ta tc
  rx : BoxP w.heap.size r.cells.toList wr
  below : Below w.heap.size w wr

set_option maxRecDepth 100000 in
set_option maxHeartbeats 8000000 in
theorem iLineValue_c (r : R) (p : P) (ms : List Int) (pa sa ma : Option Addr) (pc sc mc : Nat) (w : World) (h : PRow w p pa sa) (hms : Ints w ma ms) (hml : ms.length ≤ maxLen) (m1 : p.pits.length ≤ 16777216) (m2 : p.stores.length ≤ 16777216) (hc : p.pits.length ≤ pc) (hcm : pc ≤ maxLen) :
    Calls Try.prog 41 #[r.val, p.val pa pc sa sc, .slice ma ms.length mc] w fun e w' => e = .returned (.tuple #[.int .i64 (lineP r p ms).1, .int .i64 (lineP r p ms).2]) ∧ Below w.heap.size w w' := by
  have F0 := ((Fr.start w).alloc r.cells 30).allocF (p.cells pa pc sa sc) 32
  simp only [World.size_alloc] at F0
  have HV := fun W (H : PRow W p pa sa) => ValidPosition_c r p pa sa pc sc W H m1 m2
  obtain ⟨y, hy⟩ : ∃ y, y = lineP r p ms := ⟨_, rfl⟩
  rw [← hy]
  cases hok : p.ok r
  · simp only [hok] at HV
    have HV := Lib.hid HV
    have HE : Hid (y = (0, 1)) := by unfold Hid; rw [hy, lineP, hok]; rfl
    clear hok hy
    go_enter Try.func41, Try.ntmps41
    go_wp2_with fail
    refine (HV.out _ (h.below F0.below (Nat.le_refl _))).mono ?_
    rintro e w1 ⟨rfl, hb1⟩
    have F1 := F0.step hb1
    clear hb1 F0
    go_wp2
    go_ret2
    rw [HE.out]
    exact ⟨rfl, F1.below⟩
  simp only [hok] at HV
  have HV := Lib.hid HV
  have HE : Hid (y = if ms.length > 8 then (0, 2) else lineGo r p.player p 0 ms) := by unfold Hid; rw [hy, lineP, hok]; rfl
  have HLP : Hid (0 < p.pits.length ∧ 0 < p.stores.length) := by
    obtain ⟨hbd, _, t, hB, _, _⟩ := P.ok_parts hok
    have := hbd.lo; have := hB.lp; have := hB.ls
    unfold Hid; omega
  clear hok hy
  go_enter Try.func41, Try.ntmps41
  go_wp2_with fail
  refine (HV.out _ (h.below F0.below (Nat.le_refl _))).mono ?_
  rintro e w1 ⟨rfl, hb1⟩
  have F1 := F0.step hb1
  clear hb1 F0
  by_cases hl8 : ms.length > 8
  · have hl8' : (ms.length : Int) > 8 := by omega
    have HE2 := Lib.hid (HE.out.trans (if_pos hl8))
    clear hl8
    go_wp2
    go_ret2
    rw [HE2.out]
    exact ⟨rfl, F1.below⟩
  have hl8' : ¬ (ms.length : Int) > 8 := by omega
  have HE2 := Lib.hid (HE.out.trans (if_neg hl8))
  obtain ⟨bx, bf⟩ := F1.at 0 rfl
  have d2 : w1.cell? ⟨w.heap.size + 1, 2, none⟩ = some (.int .i64 p.player) := bx 2 _ rfl
  have hst0 : Hid (LvSt w w1 r p.player ms y 0 0 p pa pc sa sc) := ⟨Nat.zero_le _, by rw [HE2.out]; rfl, by simp, by simp, ⟨bx 0 _ rfl, bx 1 _ rfl, bx 2 _ rfl, bf, (arg_rowN h.pits HLP.out.1 (Nat.le_succ _)).below F1.below (Nat.le_refl _), (arg_rowN h.stores HLP.out.2 (Nat.le_succ _)).below F1.below (Nat.le_refl _), m1, m2, hc, hcm⟩, F1.at 1 rfl, F1.below⟩
  obtain ⟨pl, hpl⟩ : ∃ pl, pl = p.player := ⟨_, rfl⟩
  rw [← hpl] at hst0 d2
  have HMS := Lib.hid hms
  have hm8 : ms.length ≤ 8 := by omega
  clear hl8 bx bf F1 HE HE2 hms h hpl
  go_wp2_with fail
  go_loopw [9, 25] (fun ss i wr => ∃ (k : Nat) (s : Int) (q : P) (qa ta : Option Addr) (qc tc : Nat), i = .int .i64 k ∧ ss = .int .i64 s ∧ LvSt w wr r pl ms y k s q qa qc ta tc) (fun _ i _ => ms.length - (intOf i).toNat)
  case atStart => exact ⟨0, 0, p, pa, sa, pc, sc, rfl, rfl, hst0.out⟩
  case round =>
    clear hst0 d2
    obtain ⟨k, s, q, qa, ta, qc, tc, rfl, rfl, hst⟩ := hrel
    have HST := Lib.hid hst
    have hkl := hst.kl
    have hs0 := hst.s0
    have hs1 := hst.s1
    clear hst
    by_cases hk : k < ms.length
    case neg =>
      have HT : Hid (y = (s, 0)) := by
        have h1 := HST.out.go
        rw [List.drop_eq_nil_of_le (by omega)] at h1
        exact h1.symm
      go_wp2
      go_ret2
      rw [HT.out]
      exact ⟨rfl, HST.out.below⟩
    obtain ⟨mv, hmv⟩ : ∃ mv, mv = ms[k] := ⟨_, rfl⟩
    obtain ⟨mb, mo, hma, hmb, hmcs⟩ := Ints.open HMS.out (by omega)
    have hcm2 : wr.cell? ⟨mb, mo + k, none⟩ = some (.int .i64 mv) := (HST.out.below.cell (show (Addr.mk mb (mo + k) none).block < _ from hmb)).trans (by rw [hmv]; exact hmcs k hk)
    obtain ⟨z, hz⟩ : ∃ z, z = makeP r q mv := ⟨_, rfl⟩
    have HGO : Hid (y = if z.code = 0 then lineGo r pl ⟨z.pits, z.stores, z.player⟩ (if q.player = pl then s + z.gain else s - z.gain) (ms.drop (k + 1)) else (0, z.code)) := by
      have h1 := HST.out.go
      rw [List.drop_eq_getElem_cons hk, ← hmv] at h1
      rw [hz]
      exact h1.symm
    have HGN : Hid (z.code = 0 → 0 ≤ z.gain ∧ z.gain ≤ 2000 ∧ z.pits.length ≤ 16777216 ∧ z.stores.length ≤ 16777216) := fun hh => by rw [hz] at hh ⊢; exact makeP_gain hh
    have HR := Lib.hid (resultOf_c r q mv qa ta qc tc wr ⟨HST.out.lv.p.1, HST.out.lv.s.1⟩ HST.out.lv.m1 HST.out.lv.m2 HST.out.lv.hc HST.out.lv.hcm)
    rw [← hz] at HR
    obtain ⟨c0, c1, c2, c3, c4, c5, c6, c7, c8⟩ := R.boxc HST.out.rx
    obtain ⟨d0, d1, d2⟩ := (⟨HST.out.lv.c0, HST.out.lv.c1, HST.out.lv.c2⟩ : _ ∧ _ ∧ _)
    have hki : (k : Int) < (ms.length : Int) := by omega
    have hw1 : w.heap.size + 1 < wr.heap.size := World.block_lt_of_cell? wr _ d0
    subst hma
    clear hmv hmcs hz
    go_wp2_with fail
    refine HR.out.mono ?_
    rintro e w2 ⟨ua, uc, va, vc, rfl, ho, hb2⟩
    have hs2 := hb2.size
    have L2 := HST.out.lv.below hb2
    have BW2 : Below w.heap.size w w2 := below_next HST.out.below hb2
    have RX2 : BoxP w.heap.size r.cells.toList w2 := HST.out.rx.below hb2
    obtain ⟨d0, d1, d2⟩ := (⟨L2.c0, L2.c1, L2.c2⟩ : _ ∧ _ ∧ _)
    have hfz := L2.fz
    have hw2 : w.heap.size + 1 < w2.heap.size := by omega
    have hw2a : w.heap.size < w2.heap.size := by omega
    have HX := Lib.hid (⟨L2, BW2, RX2, ho⟩ : _ ∧ _ ∧ _ ∧ _)
    clear L2 BW2 RX2 ho hb2 HR c0 c1 c2 c3 c4 c5 c6 c7 c8
    by_cases hzc : z.code = 0
    case neg =>
      have hzc' : (z.code != 0) = true := by simpa using hzc
      have HT := Lib.hid (HGO.out.trans (if_neg hzc))
      clear hzc
      go_wp2
      go_ret2
      rw [HT.out]
      exact ⟨rfl, HX.out.2.1.alloc (Nat.le_of_lt hw2a) _⟩
    have hzc' : (z.code != 0) = false := by simpa using hzc
    have HT := Lib.hid (HGO.out.trans (if_pos hzc))
    obtain ⟨g0, g1, g2, g3⟩ := HGN.out hzc
    clear hzc HGN HGO
    by_cases hpq : q.player = pl
    · have hpq' : (q.player == pl) = true := by simpa using hpq
      have HT2 : Hid (y = lineGo r pl ⟨z.pits, z.stores, z.player⟩ (s + z.gain) (ms.drop (k + 1))) := by unfold Hid; rw [HT.out, if_pos hpq]
      have hwr : IntKind.i64.wrap (s + z.gain) = s + z.gain := IntWalk.i64_in _ (by omega)
      clear hpq HT
      go_wp2
      go_roundw
      case rel =>
        obtain ⟨L2, BW2, RX2, ho⟩ := HX.out
        have L3 := L2.store (y := ⟨z.pits, z.stores, z.player⟩) ho hw1 g2 g3
        have R3 := (((RX2.set (B := w.heap.size + 1) (by omega) 0 (.slice ua z.pits.length uc)).set (B := w.heap.size + 1) (by omega) 1 (.slice va z.stores.length vc)).set (B := w.heap.size + 1) (by omega) 2 (.int .i64 z.player))
        refine ⟨k + 1, s + z.gain, ⟨z.pits, z.stores, z.player⟩, ua, va, uc, vc, by go_num, rfl, by omega, HT2.out.symm, by omega, by omega, L3.below (below_alloc1 _ _), R3.below (below_alloc1 _ _), ?_⟩
        repeat (first | (with_reducible exact BW2) | ((with_reducible refine Below.alloc ?_ ?_ _); rotate_left; (first | omega | (simp <;> omega))) | ((with_reducible refine Below.setCell ?_ ?_ _); rotate_left; (simp <;> omega)))
      case measure => (simp [intOf]; omega)
    · have hpq' : (q.player == pl) = false := by simpa using hpq
      have HT2 : Hid (y = lineGo r pl ⟨z.pits, z.stores, z.player⟩ (s - z.gain) (ms.drop (k + 1))) := by unfold Hid; rw [HT.out, if_neg hpq]
      have hwr : IntKind.i64.wrap (s - z.gain) = s - z.gain := IntWalk.i64_in _ (by omega)
      clear hpq HT
      go_wp2
      go_roundw
      case rel =>
        obtain ⟨L2, BW2, RX2, ho⟩ := HX.out
        have L3 := L2.store (y := ⟨z.pits, z.stores, z.player⟩) ho hw1 g2 g3
        have R3 := (((RX2.set (B := w.heap.size + 1) (by omega) 0 (.slice ua z.pits.length uc)).set (B := w.heap.size + 1) (by omega) 1 (.slice va z.stores.length vc)).set (B := w.heap.size + 1) (by omega) 2 (.int .i64 z.player))
        refine ⟨k + 1, s - z.gain, ⟨z.pits, z.stores, z.player⟩, ua, va, uc, vc, by go_num, rfl, by omega, HT2.out.symm, by omega, by omega, L3.below (below_alloc1 _ _), R3.below (below_alloc1 _ _), ?_⟩
        repeat (first | (with_reducible exact BW2) | ((with_reducible refine Below.alloc ?_ ?_ _); rotate_left; (first | omega | (simp <;> omega))) | ((with_reducible refine Below.setCell ?_ ?_ _); rotate_left; (simp <;> omega)))
      case measure => (simp [intOf]; omega)

set_option maxRecDepth 100000 in
set_option maxHeartbeats 8000000 in
theorem sLineValue_c (r : R) (p : P) (ms : List Int) (pa sa ma : Option Addr) (pc sc mc : Nat) (w : World) (h : PRow w p pa sa) (hms : Ints w ma ms) (hml : ms.length ≤ maxLen) (m1 : p.pits.length ≤ 16777216) (m2 : p.stores.length ≤ 16777216) (hc : p.pits.length ≤ pc) (hcm : pc ≤ maxLen) :
    Calls Try.prog 39 #[r.val, p.val pa pc sa sc, .slice ma ms.length mc] w fun e w' => e = .returned (.tuple #[.int .i64 (lineP r p ms).1, .int .i64 (lineP r p ms).2]) ∧ Below w.heap.size w w' := by
  have F0 := ((Fr.start w).alloc r.cells 30).allocF (p.cells pa pc sa sc) 32
  simp only [World.size_alloc] at F0
  have hr := R.boxc (F0.at 1 rfl)
  have hp : P.At _ (w.heap.size + 1) 0 p pa pc sa sc := ⟨(F0.at 0 rfl).1 0 _ rfl, (F0.at 0 rfl).1 1 _ rfl, (F0.at 0 rfl).1 2 _ rfl⟩
  have HV := l04Ok_c _ _ _ _ r p pa sa pc sc _ hr hp (h.below F0.below (Nat.le_refl _)) m1 m2
  obtain ⟨y, hy⟩ : ∃ y, y = lineP r p ms := ⟨_, rfl⟩
  rw [← hy]
  cases hok : p.ok r
  · rw [hok] at HV
    have HV := Lib.hid HV
    have HE : Hid (y = (0, 1)) := by unfold Hid; rw [hy, lineP, hok]; rfl
    clear hok hy hr hp
    go_enter Try.func39, Try.ntmps39
    go_wp2_with fail
    refine HV.out.mono ?_
    rintro e w1 ⟨rfl, m, hm⟩
    have F1 := F0.step (show Below _ _ w1 from hm ▸ below_draws _ _ m)
    clear F0 hm HV
    go_wp2
    go_ret2
    rw [HE.out]
    exact ⟨rfl, F1.below⟩
  rw [hok] at HV
  have HV := Lib.hid HV
  have HE : Hid (y = if ms.length > 8 then (0, 2) else lineGo r p.player p 0 ms) := by unfold Hid; rw [hy, lineP, hok]; rfl
  have HLP : Hid (0 < p.pits.length ∧ 0 < p.stores.length) := by
    obtain ⟨hbd, _, t, hB, _, _⟩ := P.ok_parts hok
    have := hbd.lo; have := hB.lp; have := hB.ls
    unfold Hid; omega
  clear hok hy hr hp
  go_enter Try.func39, Try.ntmps39
  go_wp2_with fail
  refine HV.out.mono ?_
  rintro e w1 ⟨rfl, m, hm⟩
  have F1 := F0.step (show Below _ _ w1 from hm ▸ below_draws _ _ m)
  clear F0 hm HV
  by_cases hl8 : ms.length > 8
  · have hl8' : (ms.length : Int) > 8 := by omega
    have HE2 := Lib.hid (HE.out.trans (if_pos hl8))
    clear hl8
    go_wp2
    go_ret2
    rw [HE2.out]
    exact ⟨rfl, F1.below⟩
  have hl8' : ¬ (ms.length : Int) > 8 := by omega
  have HE2 := Lib.hid (HE.out.trans (if_neg hl8))
  obtain ⟨bx, bf⟩ := F1.at 0 rfl
  have d2 : w1.cell? ⟨w.heap.size + 1, 2, none⟩ = some (.int .i64 p.player) := bx 2 _ rfl
  have hst0 : Hid (LvSt w w1 r p.player ms y 0 0 p pa pc sa sc) := ⟨Nat.zero_le _, by rw [HE2.out]; rfl, by simp, by simp, ⟨bx 0 _ rfl, bx 1 _ rfl, bx 2 _ rfl, bf, (arg_rowN h.pits HLP.out.1 (Nat.le_succ _)).below F1.below (Nat.le_refl _), (arg_rowN h.stores HLP.out.2 (Nat.le_succ _)).below F1.below (Nat.le_refl _), m1, m2, hc, hcm⟩, F1.at 1 rfl, F1.below⟩
  obtain ⟨pl, hpl⟩ : ∃ pl, pl = p.player := ⟨_, rfl⟩
  rw [← hpl] at hst0 d2
  have HMS := Lib.hid hms
  have hm8 : ms.length ≤ 8 := by omega
  clear hl8 bx bf F1 HE HE2 hms h hpl
  go_wp2_with fail
  go_loopw [9, 10] (fun ss i wr => ∃ (k : Nat) (s : Int) (q : P) (qa ta : Option Addr) (qc tc : Nat), i = .int .i64 k ∧ ss = .int .i64 s ∧ LvSt w wr r pl ms y k s q qa qc ta tc) (fun _ i _ => ms.length - (intOf i).toNat)
  case atStart => exact ⟨0, 0, p, pa, sa, pc, sc, rfl, rfl, hst0.out⟩
  case round =>
    clear hst0 d2
    obtain ⟨k, s, q, qa, ta, qc, tc, rfl, rfl, hst⟩ := hrel
    have HST := Lib.hid hst
    have hkl := hst.kl
    have hs0 := hst.s0
    have hs1 := hst.s1
    clear hst
    by_cases hk : k < ms.length
    case neg =>
      have HT : Hid (y = (s, 0)) := by
        have h1 := HST.out.go
        rw [List.drop_eq_nil_of_le (by omega)] at h1
        exact h1.symm
      go_wp2
      go_ret2
      rw [HT.out]
      exact ⟨rfl, HST.out.below⟩
    obtain ⟨mv, hmv⟩ : ∃ mv, mv = ms[k] := ⟨_, rfl⟩
    obtain ⟨mb, mo, hma, hmb, hmcs⟩ := Ints.open HMS.out (by omega)
    have hcm2 : wr.cell? ⟨mb, mo + k, none⟩ = some (.int .i64 mv) := (HST.out.below.cell (show (Addr.mk mb (mo + k) none).block < _ from hmb)).trans (by rw [hmv]; exact hmcs k hk)
    obtain ⟨z, hz⟩ : ∃ z, z = makeP r q mv := ⟨_, rfl⟩
    have HGO : Hid (y = if z.code = 0 then lineGo r pl ⟨z.pits, z.stores, z.player⟩ (if q.player = pl then s + z.gain else s - z.gain) (ms.drop (k + 1)) else (0, z.code)) := by
      have h1 := HST.out.go
      rw [List.drop_eq_getElem_cons hk, ← hmv] at h1
      rw [hz]
      exact h1.symm
    have HGN : Hid (z.code = 0 → 0 ≤ z.gain ∧ z.gain ≤ 2000 ∧ z.pits.length ≤ 16777216 ∧ z.stores.length ≤ 16777216) := fun hh => by rw [hz] at hh ⊢; exact makeP_gain hh
    have hrx := R.boxc HST.out.rx
    have hpx : P.At wr (w.heap.size + 1) 0 q qa qc ta tc := ⟨HST.out.lv.c0, HST.out.lv.c1, HST.out.lv.c2⟩
    have HR := Lib.hid (l07Make_c w.heap.size 0 (w.heap.size + 1) 0 r q mv qa ta qc tc wr hrx hpx ⟨HST.out.lv.p.1, HST.out.lv.s.1⟩ HST.out.lv.m1 HST.out.lv.m2)
    clear hrx hpx
    rw [← hz] at HR
    obtain ⟨c0, c1, c2, c3, c4, c5, c6, c7, c8⟩ := R.boxc HST.out.rx
    obtain ⟨d0, d1, d2⟩ := (⟨HST.out.lv.c0, HST.out.lv.c1, HST.out.lv.c2⟩ : _ ∧ _ ∧ _)
    have hki : (k : Int) < (ms.length : Int) := by omega
    have hw1 : w.heap.size + 1 < wr.heap.size := World.block_lt_of_cell? wr _ d0
    subst hma
    clear hmv hmcs hz
    go_wp2_with fail
    refine HR.out.mono ?_
    rintro e w2 ⟨ua, uc, va, vc, rfl, ho, hb2⟩
    have hs2 := hb2.size
    have L2 := HST.out.lv.below hb2
    have BW2 : Below w.heap.size w w2 := below_next HST.out.below hb2
    have RX2 : BoxP w.heap.size r.cells.toList w2 := HST.out.rx.below hb2
    obtain ⟨d0, d1, d2⟩ := (⟨L2.c0, L2.c1, L2.c2⟩ : _ ∧ _ ∧ _)
    have hfz := L2.fz
    have hw2 : w.heap.size + 1 < w2.heap.size := by omega
    have hw2a : w.heap.size < w2.heap.size := by omega
    have HX := Lib.hid (⟨L2, BW2, RX2, ho⟩ : _ ∧ _ ∧ _ ∧ _)
    clear L2 BW2 RX2 ho hb2 HR c0 c1 c2 c3 c4 c5 c6 c7 c8
    by_cases hzc : z.code = 0
    case neg =>
      have hzc' : (z.code != 0) = true := by simpa using hzc
      have HT := Lib.hid (HGO.out.trans (if_neg hzc))
      clear hzc
      go_wp2
      go_ret2
      rw [HT.out]
      exact ⟨rfl, HX.out.2.1.alloc (Nat.le_of_lt hw2a) _⟩
    have hzc' : (z.code != 0) = false := by simpa using hzc
    have HT := Lib.hid (HGO.out.trans (if_pos hzc))
    obtain ⟨g0, g1, g2, g3⟩ := HGN.out hzc
    clear hzc HGN HGO
    by_cases hpq : q.player = pl
    · have hpq' : (q.player == pl) = true := by simpa using hpq
      have HT2 : Hid (y = lineGo r pl ⟨z.pits, z.stores, z.player⟩ (s + z.gain) (ms.drop (k + 1))) := by unfold Hid; rw [HT.out, if_pos hpq]
      have hwr : IntKind.i64.wrap (s + z.gain) = s + z.gain := IntWalk.i64_in _ (by omega)
      clear hpq HT
      go_wp2
      go_roundw
      case rel =>
        obtain ⟨L2, BW2, RX2, ho⟩ := HX.out
        have L3 := L2.store (y := ⟨z.pits, z.stores, z.player⟩) ho hw1 g2 g3
        have R3 := (((RX2.set (B := w.heap.size + 1) (by omega) 0 (.slice ua z.pits.length uc)).set (B := w.heap.size + 1) (by omega) 1 (.slice va z.stores.length vc)).set (B := w.heap.size + 1) (by omega) 2 (.int .i64 z.player))
        refine ⟨k + 1, s + z.gain, ⟨z.pits, z.stores, z.player⟩, ua, va, uc, vc, by go_num, rfl, by omega, HT2.out.symm, by omega, by omega, L3.below (below_alloc1 _ _), R3.below (below_alloc1 _ _), ?_⟩
        repeat (first | (with_reducible exact BW2) | ((with_reducible refine Below.alloc ?_ ?_ _); rotate_left; (first | omega | (simp <;> omega))) | ((with_reducible refine Below.setCell ?_ ?_ _); rotate_left; (simp <;> omega)))
      case measure => (simp [intOf]; omega)
    · have hpq' : (q.player == pl) = false := by simpa using hpq
      have HT2 : Hid (y = lineGo r pl ⟨z.pits, z.stores, z.player⟩ (s - z.gain) (ms.drop (k + 1))) := by unfold Hid; rw [HT.out, if_neg hpq]
      have hwr : IntKind.i64.wrap (s - z.gain) = s - z.gain := IntWalk.i64_in _ (by omega)
      clear hpq HT
      go_wp2
      go_roundw
      case rel =>
        obtain ⟨L2, BW2, RX2, ho⟩ := HX.out
        have L3 := L2.store (y := ⟨z.pits, z.stores, z.player⟩) ho hw1 g2 g3
        have R3 := (((RX2.set (B := w.heap.size + 1) (by omega) 0 (.slice ua z.pits.length uc)).set (B := w.heap.size + 1) (by omega) 1 (.slice va z.stores.length vc)).set (B := w.heap.size + 1) (by omega) 2 (.int .i64 z.player))
        refine ⟨k + 1, s - z.gain, ⟨z.pits, z.stores, z.player⟩, ua, va, uc, vc, by go_num, rfl, by omega, HT2.out.symm, by omega, by omega, L3.below (below_alloc1 _ _), R3.below (below_alloc1 _ _), ?_⟩
        repeat (first | (with_reducible exact BW2) | ((with_reducible refine Below.alloc ?_ ?_ _); rotate_left; (first | omega | (simp <;> omega))) | ((with_reducible refine Below.setCell ?_ ?_ _); rotate_left; (simp <;> omega)))
      case measure => (simp [intOf]; omega)

end Go.Proofs.Ytmadcifcbckcnaa
