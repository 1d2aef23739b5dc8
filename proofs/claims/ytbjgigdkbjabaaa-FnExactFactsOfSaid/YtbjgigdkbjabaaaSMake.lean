/- SMake: a move is made: the reference's functions. Each contract holds for every argument, under the premises that it states. -/
import Derived.Test.YtbjgigdkbjabaaaSTake
import Derived.Test.YtbjgigdkbjabaaaDoneP
import Derived.Test.YtbjgigdkbjabaaaSMove
import Derived.Deep.CutRange
import Derived.Test.YtbjgigdkbjabaaaHeld
namespace Go.Proofs.Ytbjgigdkbjabaaa
set_option linter.unusedSimpArgs false
set_option linter.unusedVariables false
set_option linter.unnecessarySimpa false
open Go.RowKit Go.ChangeShapes Go.WideShapes Go.ChangeAt Go.Joins

set_option maxRecDepth 100000 in
set_option maxHeartbeats 4000000 in
theorem l07Feed_c (rb ro pb po : Nat) (r : R) (p : P) (hok : p.ok r = true) (pa sa : Option Addr) (pc sc : Nat) (w : World) (hr : R.At w rb ro r) (hp : P.At w pb po p pa pc sa sc) (h : PRow w p pa sa) :
    Calls Try.prog 150 #[.pointer (some ⟨rb, ro, none⟩), .pointer (some ⟨pb, po, none⟩)] w fun e w' => e = .returned (.bool (feedP r p)) ∧ ∃ m, w' = w.drewN m := by
  obtain ⟨hbd, ⟨pn, hpn, hpn1⟩, t, hB, ht0, ht1⟩ := P.ok_parts hok
  have hall : allIn p.pits = true := by simp only [P.ok, Bool.and_eq_true] at hok; exact hok.1.1.2
  obtain ⟨qn, hqn⟩ : ∃ qn : Nat, (qn : Int) = 1 - p.player := ⟨1 - pn, by omega⟩
  have hqn1 : qn ≤ 1 := by omega
  obtain ⟨sd, hsd⟩ : ∃ sd, sd = sideP r p.pits (1 - p.player) := ⟨_, rfl⟩
  have HF : Hid (feedP r p = (r.feed && decide (sd = 0))) := by unfold Hid feedP; rw [hsd]
  have hp0 : 0 ≤ p.player := by omega
  have hp1 : p.player ≤ 1 := by omega
  have hwr : IntKind.i64.wrap (1 - p.player) = 1 - p.player := IntWalk.i64_in _ (by omega)
  have HSD : Hid (∀ n, Calls Try.prog 151 #[.pointer (some ⟨rb, ro, none⟩), .slice pa p.pits.length pc, .int .i64 (1 - p.player)] (w.drewN n) fun e w' => e = .returned (.int .i64 sd) ∧ w.drewN n = w') := fun n => by
    rw [hsd, ← hqn]; exact l04Side_c rb ro r hbd qn hqn1 p.pits hB.lp hall pa pc _ (hr.draw n) (h.pits.drewN n)
  have c5 := hr.c5
  obtain ⟨d0, d1, d2⟩ := hp
  clear hpn hqn hsd hok hr
  cases hfd : r.feed
  · rw [hfd] at c5
    have HFD := Lib.hid hfd
    clear hfd
    go_enter Try.func150, Try.ntmps150
    go_wp2_with fail
    go_quiet ((go_at_call 151; exact Calls.quiet_of_same (q_same (HSD.out _))))
    go_wp2
    go_ret
    exact ⟨by rw [HF.out, HFD.out]; rfl, _, rfl⟩
  · rw [hfd] at c5
    have HFD := Lib.hid hfd
    clear hfd
    by_cases hz : sd = 0
    · have hz' : (sd == 0) = true := by simpa using hz
      have HZ := Lib.hid hz
      clear hz
      go_enter Try.func150, Try.ntmps150
      go_wp2_with fail
      go_quiet ((go_at_call 151; exact Calls.quiet_of_same (q_same (HSD.out _))))
      go_wp2
      go_ret
      exact ⟨by rw [HF.out, HFD.out]; refine ret_bool ?_; simp [HZ.out], _, rfl⟩
    · have hz' : (sd == 0) = false := by simpa using hz
      have HZ := Lib.hid hz
      clear hz
      go_enter Try.func150, Try.ntmps150
      go_wp2_with fail
      go_quiet ((go_at_call 151; exact Calls.quiet_of_same (q_same (HSD.out _))))
      go_wp2
      go_ret
      exact ⟨by rw [HF.out, HFD.out]; refine ret_bool ?_; simp [HZ.out], _, rfl⟩

/-! ### a move that is made -/
structure Mk where
  code : Int
  move : Int
  gain : Int
  again : Bool
  pits : List Int
  stores : List Int
  player : Int
def Mk.bad (c : Int) : Mk := ⟨c, 0, 0, false, [], [], 0⟩
def makeL (r : R) (p : P) (move : Int) (d : Done) : Mk :=
  if d.code = 0 then ⟨0, move, d.stores.getD p.player.toNat 0 - p.stores.getD p.player.toNat 0, r.again && decide (d.last = -1), d.pits, d.stores, if (r.again && decide (d.last = -1)) = true then p.player else 1 - p.player⟩ else .bad d.code
def makeP (r : R) (p : P) (move : Int) : Mk := makeL r p move (doneP r p move)
@[go_sem] def Mk.cells (m : Mk) (pa : Option Addr) (pc : Nat) (sa : Option Addr) (sc : Nat) : Array Value := #[.int .i64 m.move, .int .i64 m.gain, .bool m.again, .slice pa m.pits.length pc, .slice sa m.stores.length sc, .int .i64 m.player]
@[go_sem] def Mk.val (m : Mk) (pa : Option Addr) (pc : Nat) (sa : Option Addr) (sc : Nat) : Value := .agg (m.cells pa pc sa sc)
/-- a result, with its code -/
def MkRes (w : World) (m : Mk) (e : Ending) (w' : World) : Prop := ∃ pa pc sa sc, e = .returned (.tuple #[m.val pa pc sa sc, .int .i64 m.code]) ∧ POwn w' w.heap.size ⟨m.pits, m.stores, m.player⟩ pa pc sa sc ∧ Below w.heap.size w w'

set_option maxRecDepth 100000 in
set_option maxHeartbeats 16000000 in
theorem l07Make_c (rb ro pb po : Nat) (r : R) (p : P) (move : Int) (pa sa : Option Addr) (pc sc : Nat) (w : World) (hr : R.At w rb ro r) (hp : P.At w pb po p pa pc sa sc) (h : PRow w p pa sa) (m1 : p.pits.length ≤ 16777216) (m2 : p.stores.length ≤ 16777216) :
    Calls Try.prog 113 #[.pointer (some ⟨rb, ro, none⟩), .pointer (some ⟨pb, po, none⟩), .int .i64 move] w (MkRes w (makeP r p move)) := by
  have hrb : rb < w.heap.size := World.block_lt_of_cell? w _ hr.c0
  have hpb : pb < w.heap.size := World.block_lt_of_cell? w _ hp.c0
  have F0 := (Fr.start w).allocF #[.int .i64 0, .int .i64 0, .bool false, .slice none 0 0, .slice none 0 0, .int .i64 0] 144
  have HM := Lib.hid (l05Move_c rb ro pb po r p move pa sa pc sc _ (hr.below F0.below hrb) (hp.below F0.below hpb) (h.below F0.below (Nat.le_refl _)) m1 m2)
  have HR := Lib.hid hr
  have HP := Lib.hid hp
  have H := Lib.hid h
  obtain ⟨y, hy⟩ : ∃ y, y = makeP r p move := ⟨_, rfl⟩
  rw [← hy]
  have HY := Lib.hid hy
  clear hr hp h hy
  go_enter Try.func113, Try.ntmps113
  go_wp2_with fail
  refine HM.out.mono ?_
  rintro e w1 hsm
  have F1 := F0.step (SowK.below hsm)
  obtain ⟨bx, bf⟩ := F1.at 0 rfl
  obtain ⟨x0, x1, x2, x3, x4, x5⟩ := (⟨bx 0 _ rfl, bx 1 _ rfl, bx 2 _ rfl, bx 3 _ rfl, bx 4 _ rfl, bx 5 _ rfl⟩ : _ ∧ _ ∧ _ ∧ _ ∧ _ ∧ _)
  have zR : w.heap.size < w1.heap.size := F1.le 0 rfl
  have B1 := F1.below
  clear bx F0
  rcases hsm with ⟨c, hcc, hor, rfl, _⟩ | ⟨L, n, qa, qc, ta, tc, xa, xc, hc0, ho, rfl, hpo, hx, _⟩
  · have HE : Hid (y = .bad c) := by
      unfold Hid
      rw [HY.out, makeP]
      have hd : doneP r p move = .bad c := doneP_bad hcc hor
      rw [hd, makeL]
      simp [Done.bad, hcc]
    have hc1 : (c != 0) = true := by simpa using hcc
    clear hor hcc F1
    go_wp2_with fail
    refine bodyPost_ret (v := .tuple #[(Mk.bad c).val none 0 none 0, .int .i64 c]) (by simp [results, Try.results113, go_sem, x0, x1, x2, x3, x4, x5, bf, zR, Mk.bad]) rfl ?_
    rw [HE.out]
    refine ⟨none, 0, none, 0, rfl, ⟨World.ownsRow_nil _ _ _ _, World.ownsRow_nil _ _ _ _, .inl rfl⟩, ?_⟩
    repeat (first | (with_reducible exact B1) | ((with_reducible refine Below.setCell ?_ ?_ _); rotate_left; (simp <;> omega)) | ((with_reducible refine Below.alloc ?_ ?_ _); rotate_left; (simp <;> omega)))
  obtain ⟨hok, hbd, ⟨pn, hpn, hpn1⟩, t, hB, ht1, hpl⟩ := sowP_brd hc0 ho
  obtain ⟨T, hT⟩ : ∃ T, T = takeP r p.player L.pits L.stores L.last := ⟨_, rfl⟩
  have HTP : Hid (allIn T.1 = true ∧ (T.1.length : Int) = 2 * r.pits ∧ T.2.length = 2) := by
    rw [hT]; exact ⟨(takeP_ok hbd hB ht1).1, (takeP_ok hbd hB ht1).2, by simp [takeP]; exact hB.ls⟩
  have HE : Hid (y = makeL r p move (if r.slam = 1 ∧ slamP r p.player L.pits L.last = true then .bad 9 else if feedP r p = true ∧ sideP r T.1 (1 - p.player) = 0 then .bad 9 else ⟨0, T.1, T.2, L.last, n⟩)) := by
    unfold Hid
    rw [HY.out, makeP, doneP_ok hc0 ho]
    congr 1
    unfold doneL feedP
    rw [← hT]
    congr 1
    congr 1
    simp [and_assoc]
  have F2 := (F1.pos hpo).allocF (snC L.pits L.stores L.last n qa qc ta tc) 148
  have HSA : Hid (∀ W, Below (w1.heap.size + 1) (w1.alloc (.cells (snC L.pits L.stores L.last n qa qc ta tc) 148)) W → SnA W w1.heap.size 0 L.pits L.stores L.last n qa qc ta tc) := fun W hW =>
    SnA.below ⟨(F2.at 0 rfl).1 0 _ rfl, (F2.at 0 rfl).1 1 _ rfl, (F2.at 0 rfl).1 2 _ rfl, (F2.at 0 rfl).1 3 _ rfl⟩ hW (by omega)
  have BS : Hid (∀ W, Below (w1.heap.size + 1) (w1.alloc (.cells (snC L.pits L.stores L.last n qa qc ta tc) 148)) W → Below w.heap.size w W) := fun W hW => F2.below.trans (hW.mono (by omega))
  have HPI : Hid (∀ W, Below (w1.heap.size + 1) (w1.alloc (.cells (snC L.pits L.stores L.last n qa qc ta tc) 148)) W → Ints W qa L.pits ∧ Ints W ta L.stores) := fun W hW => ⟨(F2.at 1 rfl).1.row.pits.below hW (by simp), (F2.at 1 rfl).1.row.stores.below hW (by simp)⟩
  have HSLM : Hid (∀ W, Below (w1.heap.size + 1) (w1.alloc (.cells (snC L.pits L.stores L.last n qa qc ta tc) 148)) W → Calls Try.prog 148 #[.pointer (some ⟨rb, ro, none⟩), .pointer (some ⟨w1.heap.size, 0, none⟩), .int .i64 p.player] W fun e w' => e = .returned (.bool (slamP r p.player L.pits L.last)) ∧ Below W.heap.size W w') := fun W hW => by
    rw [hpn]; exact l06Slam_c rb ro w1.heap.size 0 r hbd pn hpn1 L.pits L.stores L.last n qa ta qc tc W (HR.out.below (BS.out W hW) hrb) (HSA.out W hW) (HPI.out W hW).1 hB.lp hpl (hB.allIn ht1)
  have HTKM : Hid (∀ W, Below (w1.heap.size + 1) (w1.alloc (.cells (snC L.pits L.stores L.last n qa qc ta tc) 148)) W → Calls Try.prog 149 #[.pointer (some ⟨rb, ro, none⟩), .pointer (some ⟨w1.heap.size, 0, none⟩), .int .i64 p.player] W (TakeRes W T.1 T.2 L.last n)) := fun W hW => by
    rw [hT, hpn]; exact l06Take_c rb ro w1.heap.size 0 r hbd pn hpn1 L.pits L.stores L.last n qa ta qc tc W (HR.out.below (BS.out W hW) hrb) (HSA.out W hW) (HPI.out W hW).1 (HPI.out W hW).2 hB.lp hB.ls hpl (hB.allIn ht1) (hB.bs ht1)
  have hpl0 : 0 ≤ p.player := by omega
  have hpl1 : p.player ≤ 1 := by omega
  have HPS : Hid (p.stores.length = 2 ∧ bdL p.stores 96) := by
    obtain ⟨_, _, t', hB', h0', h1'⟩ := P.ok_parts hok
    exact ⟨hB'.ls, hB'.bs h1'⟩
  have HTB : Hid (0 ≤ T.2.getD pn 0 ∧ T.2.getD pn 0 ≤ 2000) := by
    unfold Hid
    rw [hT, hpn]
    obtain ⟨g0, g1⟩ := gainP_bd (hB.bp ht1) (by omega) (capP r pn L.pits L.last)
    have g2 := (capP_ok hbd pn L.pits L.last hB.lp hpl).2
    have g3 := getD_bd (hB.bs ht1) (by omega) pn
    have hl : pn < L.stores.length := by have := hB.ls; omega
    simp only [takeP, Int.toNat_natCast]
    rw [List.getD_eq_getElem?_getD, List.getElem?_set_self hl]
    simp only [Option.getD_some]
    omega
  have HPN := Lib.hid (⟨hpn, hpn1, hbd⟩ : _ ∧ _ ∧ _)
  obtain ⟨sv, hsv⟩ : ∃ sv, sv = slamP r p.player L.pits L.last := ⟨_, rfl⟩
  rw [← hsv] at HSLM HE
  have c8 : w1.cell? ⟨rb, ro + 8, none⟩ = some (.int .i64 r.slam) := (B1.cell (show (Addr.mk rb (ro + 8) none).block < _ from hrb)).trans HR.out.c8
  have d2 : w1.cell? ⟨pb, po + 2, none⟩ = some (.int .i64 p.player) := (B1.cell (show (Addr.mk pb (po + 2) none).block < _ from hpb)).trans HP.out.c2
  have hrb1 : rb < w1.heap.size := by omega
  have hpb1 : pb < w1.heap.size := by omega
  have HX := Lib.hid (⟨x0, x1, x2, x3, x4, x5, bf⟩ : _ ∧ _ ∧ _ ∧ _ ∧ _ ∧ _ ∧ _)
  have BR0 : Below (w1.heap.size + 1) (w1.alloc (.cells (snC L.pits L.stores L.last n qa qc ta tc) 148)) (w1.alloc (.cells (snC L.pits L.stores L.last n qa qc ta tc) 148)) := Below.refl _ _
  clear hc0 ho hpn hB hpl hT hsv hpo hx F1 HY HM
  by_cases hA : r.slam = 1 ∧ sv = true
  · obtain ⟨hs1, rfl⟩ := hA
    have e1 : (r.slam == 1) = true := by simpa using hs1
    have HS1 := Lib.hid hs1
    clear hs1
    go_wp2_with fail
    refine (HSLM.out _ BR0).mono ?_
    rintro e w2 ⟨rfl, hb2⟩
    have B2 : Below (w1.heap.size + 1) (w1.alloc (.cells (snC L.pits L.stores L.last n qa qc ta tc) 148)) w2 := BR0.trans (hb2.mono (by simp))
    have BW := BS.out w2 B2
    have hq : ∀ b o, b < w1.heap.size → w2.cell? ⟨b, o, none⟩ = w1.cell? ⟨b, o, none⟩ := fun b o hbo => (B2.cell (show (Addr.mk b o none).block < w1.heap.size + 1 by simp; omega)).trans ((below_alloc1 w1 _).cell (show (Addr.mk b o none).block < w1.heap.size from hbo))
    have hf : ∀ o, w2.frozen? ⟨w.heap.size, o, none⟩ = false := fun o => (World.frozen?_of_block (w := (w1.alloc (.cells (snC L.pits L.stores L.last n qa qc ta tc) 148))) (B2.block w.heap.size (by omega))).trans ((World.frozen?_of_block (w := w1) ((below_alloc1 w1 _).block _ zR)).trans (bf o))
    rw [← hq _ _ zR] at x0 x1 x2 x3 x4 x5
    have HE9 : Hid (y = .bad 9) := by
      unfold Hid
      rw [HE.out, if_pos ⟨HS1.out, by simp⟩]
      simp [makeL, Done.bad]
    clear hq
    go_wp2_with fail
    refine bodyPost_ret (v := .tuple #[(Mk.bad 9).val none 0 none 0, .int .i64 9]) (by simp [results, Try.results113, go_sem, x0, x1, x2, x3, x4, x5, hf, Mk.bad]) rfl ?_
    rw [HE9.out]
    refine ⟨none, 0, none, 0, rfl, ⟨World.ownsRow_nil _ _ _ _, World.ownsRow_nil _ _ _ _, .inl rfl⟩, ?_⟩
    repeat (first | (with_reducible exact BW) | ((with_reducible refine Below.setCell ?_ ?_ _); rotate_left; (simp <;> omega)) | ((with_reducible refine Below.alloc ?_ ?_ _); rotate_left; (simp <;> omega)))
  · go_upto_region 4 with fail
    go_cut [37] from 25 to 36 (fun s37 wx => s37 = .bool false ∧ Below (w1.heap.size + 1) (w1.alloc (.cells (snC L.pits L.stores L.last n qa qc ta tc) 148)) wx)
    case first =>
      by_cases hs1 : r.slam = 1
      · have e1 : (r.slam == 1) = true := by simpa using hs1
        obtain rfl : sv = false := by cases sv <;> simp_all
        clear hA hs1
        go_wp2_with fail
        refine (HSLM.out _ BR0).mono ?_
        rintro e w2 ⟨rfl, hb2⟩
        go_wp2_with fail
        go_meet
        exact ⟨rfl, BR0.trans (hb2.mono (by simp))⟩
      · have e1 : (r.slam == 1) = false := by simpa using hs1
        clear hA hs1
        go_wp2_with fail
        go_meet
        exact ⟨rfl, BR0⟩
    case rest =>
      obtain ⟨rfl, B2⟩ := hcut
      have HA := Lib.hid hA
      have BW := BS.out wc B2
      have hq : ∀ b o, b < w1.heap.size → wc.cell? ⟨b, o, none⟩ = w1.cell? ⟨b, o, none⟩ := fun b o hbo => (B2.cell (show (Addr.mk b o none).block < w1.heap.size + 1 by simp; omega)).trans ((below_alloc1 w1 _).cell (show (Addr.mk b o none).block < w1.heap.size from hbo))
      have hf : ∀ o, wc.frozen? ⟨w.heap.size, o, none⟩ = false := fun o => (World.frozen?_of_block (w := (w1.alloc (.cells (snC L.pits L.stores L.last n qa qc ta tc) 148))) (B2.block w.heap.size (by omega))).trans ((World.frozen?_of_block (w := w1) ((below_alloc1 w1 _).block _ zR)).trans (bf o))
      have hz2 : w1.heap.size + 1 ≤ wc.heap.size := by have := B2.size; simpa using this
      rw [← hq _ _ zR] at x0 x1 x2 x3 x4 x5
      rw [← hq _ _ hpb1] at d2
      have HT1 := Lib.hid (HTKM.out wc B2)
      clear hA hq c8 BR0 HX
      go_wp2_with fail
      refine HT1.out.mono ?_
      rintro e w3 ⟨ua, uc, va, vc, rfl, ho3, hb3⟩
      have BW3 : Below w.heap.size w w3 := below_next BW hb3
      have hz3 : wc.heap.size ≤ w3.heap.size := hb3.size
      obtain ⟨hc3, hf3⟩ := bcell hb3
      have zRc : w.heap.size < wc.heap.size := by omega
      have hpbc : pb < wc.heap.size := by omega
      rw [← hc3 _ _ zRc] at x0 x1 x2 x3 x4 x5
      rw [← hc3 _ _ hpbc] at d2
      have hf' : ∀ o, w3.frozen? ⟨w.heap.size, o, none⟩ = false := fun o => (hf3 _ o zRc).trans (hf o)
      have zR3 : w.heap.size < w3.heap.size := by omega
      have hpb3 : pb < w3.heap.size := by omega
      have B4 := below_alloc1 w3 (.cells (snC T.1 T.2 L.last n ua uc va vc) 148)
      have HO3 := Lib.hid ho3
      have HFD : Hid (∀ n', Calls Try.prog 150 #[.pointer (some ⟨rb, ro, none⟩), .pointer (some ⟨pb, po, none⟩)] ((w3.alloc (.cells (snC T.1 T.2 L.last n ua uc va vc) 148)).drewN n') fun e w' => e = .returned (.bool (feedP r p)) ∧ ∃ m, w' = ((w3.alloc (.cells (snC T.1 T.2 L.last n ua uc va vc) 148)).drewN n').drewN m) := fun n' =>
        l07Feed_c rb ro pb po r p hok pa sa pc sc _ (((HR.out.below BW3 hrb).below B4 (by omega)).draw n') (((HP.out.below BW3 hpb).below B4 hpb3).draw n') (((H.out.below BW3 (Nat.le_refl _)).below B4 (Nat.le_refl _)).below (below_draws _ _ n') (Nat.le_refl _))
      obtain ⟨z, hz⟩ : ∃ z, z = sideP r T.1 (1 - p.player) := ⟨_, rfl⟩
      have HSD : Hid (∀ n', Calls Try.prog 151 #[.pointer (some ⟨rb, ro, none⟩), .slice ua T.1.length uc, .int .i64 (1 - p.player)] ((w3.alloc (.cells (snC T.1 T.2 L.last n ua uc va vc) 148)).drewN n') fun e w' => e = .returned (.int .i64 z) ∧ (w3.alloc (.cells (snC T.1 T.2 L.last n ua uc va vc) 148)).drewN n' = w') := fun n' => by
        obtain ⟨hpn, hpn1, hbd⟩ := HPN.out
        obtain ⟨qn, hqn⟩ : ∃ qn : Nat, (qn : Int) = 1 - p.player := ⟨1 - pn, by omega⟩
        rw [hz, ← hqn]
        exact l04Side_c rb ro r hbd qn (by omega) T.1 HTP.out.2.1 HTP.out.1 ua uc _ (((HR.out.below BW3 hrb).below B4 (by omega)).draw n') ((((own_row HO3.out.pits).below B4 (Nat.le_refl _)).below (below_draws _ _ n') (Nat.le_refl _)))
      rw [← hz] at HE
      obtain ⟨mf, hmf⟩ : ∃ mf, mf = feedP r p := ⟨_, rfl⟩
      rw [← hmf] at HFD HE
      have hwr : IntKind.i64.wrap (1 - p.player) = 1 - p.player := IntWalk.i64_in _ (by omega)
      clear hz hmf hc3 hf3 hf ho3 hok HT1
      by_cases hB : mf = true ∧ z = 0
      case pos =>
        obtain ⟨rfl, hz0⟩ := hB
        have e2 : (z == 0) = true := by simpa using hz0
        have HE9 : Hid (y = .bad 9) := by
          unfold Hid
          rw [HE.out, if_neg (fun h => HA.out ⟨h.1, h.2⟩), if_pos ⟨rfl, hz0⟩]
          simp [makeL, Done.bad]
        clear hz0
        go_wp2_with fail
        go_quiet ((first | (go_at_call 150; exact Calls.quiet_of (HFD.out _)) | (go_at_call 151; exact Calls.quiet_of_same (q_same (HSD.out _)))))
        go_wp2_with fail
        refine bodyPost_ret (v := .tuple #[(Mk.bad 9).val none 0 none 0, .int .i64 9]) (by simp [results, Try.results113, go_sem, x0, x1, x2, x3, x4, x5, hf', zR3, Mk.bad]) rfl ?_
        rw [HE9.out]
        refine ⟨none, 0, none, 0, rfl, ⟨World.ownsRow_nil _ _ _ _, World.ownsRow_nil _ _ _ _, .inl rfl⟩, ?_⟩
        repeat (first | (with_reducible exact BW3) | ((with_reducible refine Below.setCell ?_ ?_ _); rotate_left; (simp <;> omega)) | ((with_reducible refine Below.alloc ?_ ?_ _); rotate_left; (first | omega | (simp <;> omega))) | (with_reducible refine Below.trans ?_ (below_draws _ _ _)) | (with_reducible refine Below.drew ?_))
      have HEK : Hid (y = makeL r p move ⟨0, T.1, T.2, L.last, n⟩) := by
        unfold Hid
        rw [HE.out, if_neg (fun h => HA.out ⟨h.1, h.2⟩), if_neg hB]
      obtain ⟨hpn, hpn1, hbd⟩ := HPN.out
      have hT2l : pn < T.2.length := by have := HTP.out.2.2; omega
      have hpsl : pn < p.stores.length := by have := HPS.out.1; omega
      obtain ⟨vg, hvg, hv1, hv2⟩ := own_lt_n HO3.out.stores (by have := HTP.out.2.2; omega : 0 < T.2.length)
      obtain ⟨s1, hs1⟩ : ∃ s1, s1 = T.2[pn] := ⟨_, rfl⟩
      obtain ⟨s2, hs2⟩ : ∃ s2, s2 = p.stores[pn] := ⟨_, rfl⟩
      have hes1 : w3.cell? ⟨vg, pn, none⟩ = some (.int .i64 s1) := by
        have h1 := HO3.out.stores
        rw [hvg] at h1
        rw [h1.cellAt pn (by show pn < T.2.length * 1; omega), hs1]
        simp [hT2l]
      obtain ⟨sg', so', hsa, hsgl, hscs⟩ := Ints.open H.out.stores (by omega)
      have hes2 : w3.cell? ⟨sg', so' + pn, none⟩ = some (.int .i64 s2) := (BW3.cell (show (Addr.mk sg' (so' + pn) none).block < _ from hsgl)).trans (by rw [hs2]; exact hscs pn hpsl)
      have c6 : w3.cell? ⟨rb, ro + 6, none⟩ = some (.bool r.again) := (BW3.cell (show (Addr.mk rb (ro + 6) none).block < _ from hrb)).trans HR.out.c6
      have p1 : w3.cell? ⟨pb, po + 1, none⟩ = some (.slice sa p.stores.length sc) := (BW3.cell (show (Addr.mk pb (po + 1) none).block < _ from hpb)).trans HP.out.c1
      have hrb3 : rb < w3.heap.size := by omega
      have hsg3 : sg' < w3.heap.size := by omega
      have hsb : 0 ≤ s1 ∧ s1 ≤ 2000 := by have h1 := HTB.out; rw [hs1]; simpa [hT2l] using h1
      have hsc2 : 0 ≤ s2 ∧ s2 ≤ 96 := by rw [hs2]; exact bdL_get HPS.out.2 hpsl
      obtain ⟨sb0, sb1⟩ := hsb
      obtain ⟨sc0, sc1⟩ := hsc2
      have hplN : p.player.toNat = pn := by omega
      have hti : p.player < (T.2.length : Int) := by omega
      have hpi : p.player < (p.stores.length : Int) := by omega
      subst hvg
      subst hsa
      have HVS := Lib.hid (⟨hs1, hs2, hpn⟩ : _ ∧ _ ∧ _)
      clear hs1 hs2 hpn
      have hB2 : mf = false ∨ (mf = true ∧ (z == 0) = false) := by
        cases mf
        · exact .inl rfl
        · exact .inr ⟨rfl, by simpa using fun h => hB ⟨rfl, h⟩⟩
      go_upto_region 7 with fail
      go_cut [59] from 45 to 59 (fun s59 wx => s59 = .bool false ∧ ∃ m, wx = (w3.alloc (.cells (snC T.1 T.2 L.last n ua uc (some ⟨vg, 0, none⟩) vc) 148)).drewN m)
      case first =>
        clear hB
        rcases hB2 with rfl | ⟨rfl, e2⟩
        all_goals (go_quiet ((first | (go_at_call 150; exact Calls.quiet_of (HFD.out _)) | (go_at_call 151; exact Calls.quiet_of_same (q_same (HSD.out _))))))
        all_goals (go_wp2_with fail)
        all_goals go_meet
        all_goals exact ⟨rfl, _, rfl⟩
      case rest =>
        obtain ⟨rfl, nd, rfl⟩ := hcut
        clear hB2
        cases hag : r.again
        · rw [hag] at c6
          have HAG := Lib.hid hag
          clear hag hB
          go_wp2_with fail
          refine heldH (S := fun w' => ∀ b o, b < w3.heap.size + 1 → w'.cell? ⟨b, o, none⟩ = (w3.alloc (.cells (snC T.1 T.2 L.last n ua uc (some ⟨vg, 0, none⟩) vc) 148)).cell? ⟨b, o, none⟩) (n := 32) (listed := #[false, false, false, false, false, false, false, false, false, false, false, false, false, false, false, false, false, false, false, false, false, false, false, false, false, false, false, false, false, false, false, false]) (by kernel_rfl) (by rfl) (by rfl) ?_ (fun hHeld => ?_)
          (focus ((try dsimp only); (first | done | (((intro b o hbo; first | rfl | exact (below_alloc1 _ _).cell (show (Addr.mk b o none).block < _ by simpa using hbo) | skip)); done))))
          (first | ((refine takeH (i := 0) (v := ?_) (by decide +kernel) (by decide +kernel) (by kernel_rfl) (by rfl) (by exact fun _ _ _ h => h) (by rfl) ?_ (by assumption) ?_); rotate_left; (focus (intro w hSw; (try dsimp only at hSw); go_simp; (try with_reducible rfl); done)); (try simp only [Act.put, List.setIfInBounds_toArray, List.set_cons_zero, List.set_cons_succ])) | ((refine skipH (i := 0) (by decide +kernel) (by decide +kernel) (by kernel_rfl) (by rfl) (by exact fun _ _ _ h => h) (by rfl) (by assumption) ?_); (try simp only [Act.put, List.setIfInBounds_toArray, List.set_cons_zero, List.set_cons_succ])))
          (first | ((refine takeH (i := 1) (v := ?_) (by decide +kernel) (by decide +kernel) (by kernel_rfl) (by rfl) (by exact fun _ _ _ h => h) (by rfl) ?_ (by assumption) ?_); rotate_left; (focus (intro w hSw; (try dsimp only at hSw); go_simp; (try with_reducible rfl); done)); (try simp only [Act.put, List.setIfInBounds_toArray, List.set_cons_zero, List.set_cons_succ])) | ((refine skipH (i := 1) (by decide +kernel) (by decide +kernel) (by kernel_rfl) (by rfl) (by exact fun _ _ _ h => h) (by rfl) (by assumption) ?_); (try simp only [Act.put, List.setIfInBounds_toArray, List.set_cons_zero, List.set_cons_succ])))
          (first | ((refine takeH (i := 2) (v := ?_) (by decide +kernel) (by decide +kernel) (by kernel_rfl) (by rfl) (by exact fun _ _ _ h => h) (by rfl) ?_ (by assumption) ?_); rotate_left; (focus (intro w hSw; (try dsimp only at hSw); go_simp; (try with_reducible rfl); done)); (try simp only [Act.put, List.setIfInBounds_toArray, List.set_cons_zero, List.set_cons_succ])) | ((refine skipH (i := 2) (by decide +kernel) (by decide +kernel) (by kernel_rfl) (by rfl) (by exact fun _ _ _ h => h) (by rfl) (by assumption) ?_); (try simp only [Act.put, List.setIfInBounds_toArray, List.set_cons_zero, List.set_cons_succ])))
          (first | ((refine takeH (i := 3) (v := ?_) (by decide +kernel) (by decide +kernel) (by kernel_rfl) (by rfl) (by exact fun _ _ _ h => h) (by rfl) ?_ (by assumption) ?_); rotate_left; (focus (intro w hSw; (try dsimp only at hSw); go_simp; (try with_reducible rfl); done)); (try simp only [Act.put, List.setIfInBounds_toArray, List.set_cons_zero, List.set_cons_succ])) | ((refine skipH (i := 3) (by decide +kernel) (by decide +kernel) (by kernel_rfl) (by rfl) (by exact fun _ _ _ h => h) (by rfl) (by assumption) ?_); (try simp only [Act.put, List.setIfInBounds_toArray, List.set_cons_zero, List.set_cons_succ])))
          (first | ((refine takeH (i := 4) (v := ?_) (by decide +kernel) (by decide +kernel) (by kernel_rfl) (by rfl) (by exact fun _ _ _ h => h) (by rfl) ?_ (by assumption) ?_); rotate_left; (focus (intro w hSw; (try dsimp only at hSw); go_simp; (try with_reducible rfl); done)); (try simp only [Act.put, List.setIfInBounds_toArray, List.set_cons_zero, List.set_cons_succ])) | ((refine skipH (i := 4) (by decide +kernel) (by decide +kernel) (by kernel_rfl) (by rfl) (by exact fun _ _ _ h => h) (by rfl) (by assumption) ?_); (try simp only [Act.put, List.setIfInBounds_toArray, List.set_cons_zero, List.set_cons_succ])))
          (first | ((refine takeH (i := 5) (v := ?_) (by decide +kernel) (by decide +kernel) (by kernel_rfl) (by rfl) (by exact fun _ _ _ h => h) (by rfl) ?_ (by assumption) ?_); rotate_left; (focus (intro w hSw; (try dsimp only at hSw); go_simp; (try with_reducible rfl); done)); (try simp only [Act.put, List.setIfInBounds_toArray, List.set_cons_zero, List.set_cons_succ])) | ((refine skipH (i := 5) (by decide +kernel) (by decide +kernel) (by kernel_rfl) (by rfl) (by exact fun _ _ _ h => h) (by rfl) (by assumption) ?_); (try simp only [Act.put, List.setIfInBounds_toArray, List.set_cons_zero, List.set_cons_succ])))
          (first | ((refine takeH (i := 6) (v := ?_) (by decide +kernel) (by decide +kernel) (by kernel_rfl) (by rfl) (by exact fun _ _ _ h => h) (by rfl) ?_ (by assumption) ?_); rotate_left; (focus (intro w hSw; (try dsimp only at hSw); go_simp; (try with_reducible rfl); done)); (try simp only [Act.put, List.setIfInBounds_toArray, List.set_cons_zero, List.set_cons_succ])) | ((refine skipH (i := 6) (by decide +kernel) (by decide +kernel) (by kernel_rfl) (by rfl) (by exact fun _ _ _ h => h) (by rfl) (by assumption) ?_); (try simp only [Act.put, List.setIfInBounds_toArray, List.set_cons_zero, List.set_cons_succ])))
          (first | ((refine takeH (i := 7) (v := ?_) (by decide +kernel) (by decide +kernel) (by kernel_rfl) (by rfl) (by exact fun _ _ _ h => h) (by rfl) ?_ (by assumption) ?_); rotate_left; (focus (intro w hSw; (try dsimp only at hSw); go_simp; (try with_reducible rfl); done)); (try simp only [Act.put, List.setIfInBounds_toArray, List.set_cons_zero, List.set_cons_succ])) | ((refine skipH (i := 7) (by decide +kernel) (by decide +kernel) (by kernel_rfl) (by rfl) (by exact fun _ _ _ h => h) (by rfl) (by assumption) ?_); (try simp only [Act.put, List.setIfInBounds_toArray, List.set_cons_zero, List.set_cons_succ])))
          (first | ((refine takeH (i := 8) (v := ?_) (by decide +kernel) (by decide +kernel) (by kernel_rfl) (by rfl) (by exact fun _ _ _ h => h) (by rfl) ?_ (by assumption) ?_); rotate_left; (focus (intro w hSw; (try dsimp only at hSw); go_simp; (try with_reducible rfl); done)); (try simp only [Act.put, List.setIfInBounds_toArray, List.set_cons_zero, List.set_cons_succ])) | ((refine skipH (i := 8) (by decide +kernel) (by decide +kernel) (by kernel_rfl) (by rfl) (by exact fun _ _ _ h => h) (by rfl) (by assumption) ?_); (try simp only [Act.put, List.setIfInBounds_toArray, List.set_cons_zero, List.set_cons_succ])))
          (first | ((refine takeH (i := 9) (v := ?_) (by decide +kernel) (by decide +kernel) (by kernel_rfl) (by rfl) (by exact fun _ _ _ h => h) (by rfl) ?_ (by assumption) ?_); rotate_left; (focus (intro w hSw; (try dsimp only at hSw); go_simp; (try with_reducible rfl); done)); (try simp only [Act.put, List.setIfInBounds_toArray, List.set_cons_zero, List.set_cons_succ])) | ((refine skipH (i := 9) (by decide +kernel) (by decide +kernel) (by kernel_rfl) (by rfl) (by exact fun _ _ _ h => h) (by rfl) (by assumption) ?_); (try simp only [Act.put, List.setIfInBounds_toArray, List.set_cons_zero, List.set_cons_succ])))
          (first | ((refine takeH (i := 10) (v := ?_) (by decide +kernel) (by decide +kernel) (by kernel_rfl) (by rfl) (by exact fun _ _ _ h => h) (by rfl) ?_ (by assumption) ?_); rotate_left; (focus (intro w hSw; (try dsimp only at hSw); go_simp; (try with_reducible rfl); done)); (try simp only [Act.put, List.setIfInBounds_toArray, List.set_cons_zero, List.set_cons_succ])) | ((refine skipH (i := 10) (by decide +kernel) (by decide +kernel) (by kernel_rfl) (by rfl) (by exact fun _ _ _ h => h) (by rfl) (by assumption) ?_); (try simp only [Act.put, List.setIfInBounds_toArray, List.set_cons_zero, List.set_cons_succ])))
          (first | ((refine takeH (i := 11) (v := ?_) (by decide +kernel) (by decide +kernel) (by kernel_rfl) (by rfl) (by exact fun _ _ _ h => h) (by rfl) ?_ (by assumption) ?_); rotate_left; (focus (intro w hSw; (try dsimp only at hSw); go_simp; (try with_reducible rfl); done)); (try simp only [Act.put, List.setIfInBounds_toArray, List.set_cons_zero, List.set_cons_succ])) | ((refine skipH (i := 11) (by decide +kernel) (by decide +kernel) (by kernel_rfl) (by rfl) (by exact fun _ _ _ h => h) (by rfl) (by assumption) ?_); (try simp only [Act.put, List.setIfInBounds_toArray, List.set_cons_zero, List.set_cons_succ])))
          (first | ((refine takeH (i := 12) (v := ?_) (by decide +kernel) (by decide +kernel) (by kernel_rfl) (by rfl) (by exact fun _ _ _ h => h) (by rfl) ?_ (by assumption) ?_); rotate_left; (focus (intro w hSw; (try dsimp only at hSw); go_simp; (try with_reducible rfl); done)); (try simp only [Act.put, List.setIfInBounds_toArray, List.set_cons_zero, List.set_cons_succ])) | ((refine skipH (i := 12) (by decide +kernel) (by decide +kernel) (by kernel_rfl) (by rfl) (by exact fun _ _ _ h => h) (by rfl) (by assumption) ?_); (try simp only [Act.put, List.setIfInBounds_toArray, List.set_cons_zero, List.set_cons_succ])))
          (first | ((refine takeH (i := 13) (v := ?_) (by decide +kernel) (by decide +kernel) (by kernel_rfl) (by rfl) (by exact fun _ _ _ h => h) (by rfl) ?_ (by assumption) ?_); rotate_left; (focus (intro w hSw; (try dsimp only at hSw); go_simp; (try with_reducible rfl); done)); (try simp only [Act.put, List.setIfInBounds_toArray, List.set_cons_zero, List.set_cons_succ])) | ((refine skipH (i := 13) (by decide +kernel) (by decide +kernel) (by kernel_rfl) (by rfl) (by exact fun _ _ _ h => h) (by rfl) (by assumption) ?_); (try simp only [Act.put, List.setIfInBounds_toArray, List.set_cons_zero, List.set_cons_succ])))
          (first | ((refine takeH (i := 14) (v := ?_) (by decide +kernel) (by decide +kernel) (by kernel_rfl) (by rfl) (by exact fun _ _ _ h => h) (by rfl) ?_ (by assumption) ?_); rotate_left; (focus (intro w hSw; (try dsimp only at hSw); go_simp; (try with_reducible rfl); done)); (try simp only [Act.put, List.setIfInBounds_toArray, List.set_cons_zero, List.set_cons_succ])) | ((refine skipH (i := 14) (by decide +kernel) (by decide +kernel) (by kernel_rfl) (by rfl) (by exact fun _ _ _ h => h) (by rfl) (by assumption) ?_); (try simp only [Act.put, List.setIfInBounds_toArray, List.set_cons_zero, List.set_cons_succ])))
          (first | ((refine takeH (i := 15) (v := ?_) (by decide +kernel) (by decide +kernel) (by kernel_rfl) (by rfl) (by exact fun _ _ _ h => h) (by rfl) ?_ (by assumption) ?_); rotate_left; (focus (intro w hSw; (try dsimp only at hSw); go_simp; (try with_reducible rfl); done)); (try simp only [Act.put, List.setIfInBounds_toArray, List.set_cons_zero, List.set_cons_succ])) | ((refine skipH (i := 15) (by decide +kernel) (by decide +kernel) (by kernel_rfl) (by rfl) (by exact fun _ _ _ h => h) (by rfl) (by assumption) ?_); (try simp only [Act.put, List.setIfInBounds_toArray, List.set_cons_zero, List.set_cons_succ])))
          (first | ((refine takeH (i := 16) (v := ?_) (by decide +kernel) (by decide +kernel) (by kernel_rfl) (by rfl) (by exact fun _ _ _ h => h) (by rfl) ?_ (by assumption) ?_); rotate_left; (focus (intro w hSw; (try dsimp only at hSw); go_simp; (try with_reducible rfl); done)); (try simp only [Act.put, List.setIfInBounds_toArray, List.set_cons_zero, List.set_cons_succ])) | ((refine skipH (i := 16) (by decide +kernel) (by decide +kernel) (by kernel_rfl) (by rfl) (by exact fun _ _ _ h => h) (by rfl) (by assumption) ?_); (try simp only [Act.put, List.setIfInBounds_toArray, List.set_cons_zero, List.set_cons_succ])))
          (first | ((refine takeH (i := 17) (v := ?_) (by decide +kernel) (by decide +kernel) (by kernel_rfl) (by rfl) (by exact fun _ _ _ h => h) (by rfl) ?_ (by assumption) ?_); rotate_left; (focus (intro w hSw; (try dsimp only at hSw); go_simp; (try with_reducible rfl); done)); (try simp only [Act.put, List.setIfInBounds_toArray, List.set_cons_zero, List.set_cons_succ])) | ((refine skipH (i := 17) (by decide +kernel) (by decide +kernel) (by kernel_rfl) (by rfl) (by exact fun _ _ _ h => h) (by rfl) (by assumption) ?_); (try simp only [Act.put, List.setIfInBounds_toArray, List.set_cons_zero, List.set_cons_succ])))
          (first | ((refine takeH (i := 18) (v := ?_) (by decide +kernel) (by decide +kernel) (by kernel_rfl) (by rfl) (by exact fun _ _ _ h => h) (by rfl) ?_ (by assumption) ?_); rotate_left; (focus (intro w hSw; (try dsimp only at hSw); go_simp; (try with_reducible rfl); done)); (try simp only [Act.put, List.setIfInBounds_toArray, List.set_cons_zero, List.set_cons_succ])) | ((refine skipH (i := 18) (by decide +kernel) (by decide +kernel) (by kernel_rfl) (by rfl) (by exact fun _ _ _ h => h) (by rfl) (by assumption) ?_); (try simp only [Act.put, List.setIfInBounds_toArray, List.set_cons_zero, List.set_cons_succ])))
          (first | ((refine takeH (i := 19) (v := ?_) (by decide +kernel) (by decide +kernel) (by kernel_rfl) (by rfl) (by exact fun _ _ _ h => h) (by rfl) ?_ (by assumption) ?_); rotate_left; (focus (intro w hSw; (try dsimp only at hSw); go_simp; (try with_reducible rfl); done)); (try simp only [Act.put, List.setIfInBounds_toArray, List.set_cons_zero, List.set_cons_succ])) | ((refine skipH (i := 19) (by decide +kernel) (by decide +kernel) (by kernel_rfl) (by rfl) (by exact fun _ _ _ h => h) (by rfl) (by assumption) ?_); (try simp only [Act.put, List.setIfInBounds_toArray, List.set_cons_zero, List.set_cons_succ])))
          (first | ((refine takeH (i := 20) (v := ?_) (by decide +kernel) (by decide +kernel) (by kernel_rfl) (by rfl) (by exact fun _ _ _ h => h) (by rfl) ?_ (by assumption) ?_); rotate_left; (focus (intro w hSw; (try dsimp only at hSw); go_simp; (try with_reducible rfl); done)); (try simp only [Act.put, List.setIfInBounds_toArray, List.set_cons_zero, List.set_cons_succ])) | ((refine skipH (i := 20) (by decide +kernel) (by decide +kernel) (by kernel_rfl) (by rfl) (by exact fun _ _ _ h => h) (by rfl) (by assumption) ?_); (try simp only [Act.put, List.setIfInBounds_toArray, List.set_cons_zero, List.set_cons_succ])))
          (first | ((refine takeH (i := 21) (v := ?_) (by decide +kernel) (by decide +kernel) (by kernel_rfl) (by rfl) (by exact fun _ _ _ h => h) (by rfl) ?_ (by assumption) ?_); rotate_left; (focus (intro w hSw; (try dsimp only at hSw); go_simp; (try with_reducible rfl); done)); (try simp only [Act.put, List.setIfInBounds_toArray, List.set_cons_zero, List.set_cons_succ])) | ((refine skipH (i := 21) (by decide +kernel) (by decide +kernel) (by kernel_rfl) (by rfl) (by exact fun _ _ _ h => h) (by rfl) (by assumption) ?_); (try simp only [Act.put, List.setIfInBounds_toArray, List.set_cons_zero, List.set_cons_succ])))
          (first | ((refine takeH (i := 22) (v := ?_) (by decide +kernel) (by decide +kernel) (by kernel_rfl) (by rfl) (by exact fun _ _ _ h => h) (by rfl) ?_ (by assumption) ?_); rotate_left; (focus (intro w hSw; (try dsimp only at hSw); go_simp; (try with_reducible rfl); done)); (try simp only [Act.put, List.setIfInBounds_toArray, List.set_cons_zero, List.set_cons_succ])) | ((refine skipH (i := 22) (by decide +kernel) (by decide +kernel) (by kernel_rfl) (by rfl) (by exact fun _ _ _ h => h) (by rfl) (by assumption) ?_); (try simp only [Act.put, List.setIfInBounds_toArray, List.set_cons_zero, List.set_cons_succ])))
          (first | ((refine takeH (i := 23) (v := ?_) (by decide +kernel) (by decide +kernel) (by kernel_rfl) (by rfl) (by exact fun _ _ _ h => h) (by rfl) ?_ (by assumption) ?_); rotate_left; (focus (intro w hSw; (try dsimp only at hSw); go_simp; (try with_reducible rfl); done)); (try simp only [Act.put, List.setIfInBounds_toArray, List.set_cons_zero, List.set_cons_succ])) | ((refine skipH (i := 23) (by decide +kernel) (by decide +kernel) (by kernel_rfl) (by rfl) (by exact fun _ _ _ h => h) (by rfl) (by assumption) ?_); (try simp only [Act.put, List.setIfInBounds_toArray, List.set_cons_zero, List.set_cons_succ])))
          (first | ((refine takeH (i := 24) (v := ?_) (by decide +kernel) (by decide +kernel) (by kernel_rfl) (by rfl) (by exact fun _ _ _ h => h) (by rfl) ?_ (by assumption) ?_); rotate_left; (focus (intro w hSw; (try dsimp only at hSw); go_simp; (try with_reducible rfl); done)); (try simp only [Act.put, List.setIfInBounds_toArray, List.set_cons_zero, List.set_cons_succ])) | ((refine skipH (i := 24) (by decide +kernel) (by decide +kernel) (by kernel_rfl) (by rfl) (by exact fun _ _ _ h => h) (by rfl) (by assumption) ?_); (try simp only [Act.put, List.setIfInBounds_toArray, List.set_cons_zero, List.set_cons_succ])))
          (first | ((refine takeH (i := 25) (v := ?_) (by decide +kernel) (by decide +kernel) (by kernel_rfl) (by rfl) (by exact fun _ _ _ h => h) (by rfl) ?_ (by assumption) ?_); rotate_left; (focus (intro w hSw; (try dsimp only at hSw); go_simp; (try with_reducible rfl); done)); (try simp only [Act.put, List.setIfInBounds_toArray, List.set_cons_zero, List.set_cons_succ])) | ((refine skipH (i := 25) (by decide +kernel) (by decide +kernel) (by kernel_rfl) (by rfl) (by exact fun _ _ _ h => h) (by rfl) (by assumption) ?_); (try simp only [Act.put, List.setIfInBounds_toArray, List.set_cons_zero, List.set_cons_succ])))
          (first | ((refine takeH (i := 26) (v := ?_) (by decide +kernel) (by decide +kernel) (by kernel_rfl) (by rfl) (by exact fun _ _ _ h => h) (by rfl) ?_ (by assumption) ?_); rotate_left; (focus (intro w hSw; (try dsimp only at hSw); go_simp; (try with_reducible rfl); done)); (try simp only [Act.put, List.setIfInBounds_toArray, List.set_cons_zero, List.set_cons_succ])) | ((refine skipH (i := 26) (by decide +kernel) (by decide +kernel) (by kernel_rfl) (by rfl) (by exact fun _ _ _ h => h) (by rfl) (by assumption) ?_); (try simp only [Act.put, List.setIfInBounds_toArray, List.set_cons_zero, List.set_cons_succ])))
          (first | ((refine takeH (i := 27) (v := ?_) (by decide +kernel) (by decide +kernel) (by kernel_rfl) (by rfl) (by exact fun _ _ _ h => h) (by rfl) ?_ (by assumption) ?_); rotate_left; (focus (intro w hSw; (try dsimp only at hSw); go_simp; (try with_reducible rfl); done)); (try simp only [Act.put, List.setIfInBounds_toArray, List.set_cons_zero, List.set_cons_succ])) | ((refine skipH (i := 27) (by decide +kernel) (by decide +kernel) (by kernel_rfl) (by rfl) (by exact fun _ _ _ h => h) (by rfl) (by assumption) ?_); (try simp only [Act.put, List.setIfInBounds_toArray, List.set_cons_zero, List.set_cons_succ])))
          (first | ((refine takeH (i := 28) (v := ?_) (by decide +kernel) (by decide +kernel) (by kernel_rfl) (by rfl) (by exact fun _ _ _ h => h) (by rfl) ?_ (by assumption) ?_); rotate_left; (focus (intro w hSw; (try dsimp only at hSw); go_simp; (try with_reducible rfl); done)); (try simp only [Act.put, List.setIfInBounds_toArray, List.set_cons_zero, List.set_cons_succ])) | ((refine skipH (i := 28) (by decide +kernel) (by decide +kernel) (by kernel_rfl) (by rfl) (by exact fun _ _ _ h => h) (by rfl) (by assumption) ?_); (try simp only [Act.put, List.setIfInBounds_toArray, List.set_cons_zero, List.set_cons_succ])))
          (first | ((refine takeH (i := 29) (v := ?_) (by decide +kernel) (by decide +kernel) (by kernel_rfl) (by rfl) (by exact fun _ _ _ h => h) (by rfl) ?_ (by assumption) ?_); rotate_left; (focus (intro w hSw; (try dsimp only at hSw); go_simp; (try with_reducible rfl); done)); (try simp only [Act.put, List.setIfInBounds_toArray, List.set_cons_zero, List.set_cons_succ])) | ((refine skipH (i := 29) (by decide +kernel) (by decide +kernel) (by kernel_rfl) (by rfl) (by exact fun _ _ _ h => h) (by rfl) (by assumption) ?_); (try simp only [Act.put, List.setIfInBounds_toArray, List.set_cons_zero, List.set_cons_succ])))
          (first | ((refine nextH (i := 30) (by decide +kernel) (by rfl) (by rfl) (fun K hK => ?_)); go_simp; (skip); (refine hK.out _ _ ?_ (fun hHeld' => ?_)); (focus ((try dsimp only); (first | done | (((intro b o hbo; first | rfl | exact (below_alloc1 _ _).cell (show (Addr.mk b o none).block < _ by simpa using hbo) | skip)); done)))); clear hK K hHeld; have hHeld := hHeld'; clear hHeld'; (try simp only [Act.put, List.setIfInBounds_toArray, List.set_cons_zero, List.set_cons_succ])) | ((refine skipH (i := 30) (by decide +kernel) (by decide +kernel) (by kernel_rfl) (by rfl) (by exact fun _ _ _ h => h) (by rfl) (by assumption) ?_); (try simp only [Act.put, List.setIfInBounds_toArray, List.set_cons_zero, List.set_cons_succ])))
          (first | ((refine nextH (i := 31) (by decide +kernel) (by rfl) (by rfl) (fun K hK => ?_)); go_simp; (skip); (refine hK.out _ _ ?_ (fun hHeld' => ?_)); (focus ((try dsimp only); (first | done | (((intro b o hbo; first | rfl | exact (below_alloc1 _ _).cell (show (Addr.mk b o none).block < _ by simpa using hbo) | skip)); done)))); clear hK K hHeld; have hHeld := hHeld'; clear hHeld'; (try simp only [Act.put, List.setIfInBounds_toArray, List.set_cons_zero, List.set_cons_succ])) | ((refine skipH (i := 31) (by decide +kernel) (by decide +kernel) (by kernel_rfl) (by rfl) (by exact fun _ _ _ h => h) (by rfl) (by assumption) ?_); (try simp only [Act.put, List.setIfInBounds_toArray, List.set_cons_zero, List.set_cons_succ])))
          refine wpAnyH_done (by decide +kernel) ?_ _
          go_wp2_with fail
          go_region_held3 (fun w' => ∀ b o, b < w3.heap.size + 1 → w'.cell? ⟨b, o, none⟩ = (w3.alloc (.cells (snC T.1 T.2 L.last n ua uc (some ⟨vg, 0, none⟩) vc) 148)).cell? ⟨b, o, none⟩) ((intro b o hbo; first | rfl | exact (below_alloc1 _ _).cell (show (Addr.mk b o none).block < _ by simpa using hbo) | (refine Below.cell (B := w3.heap.size + 1) ?_ (show (Addr.mk b o none).block < _ from hbo); repeat (first | (with_reducible exact Below.refl _ _) | ((with_reducible refine Below.setCell ?_ ?_ _); rotate_left; (simp <;> omega)) | ((with_reducible refine Below.alloc ?_ ?_ _); rotate_left; (first | omega | (simp <;> omega))) | (with_reducible refine Below.trans ?_ (below_draws _ _ _)) | (with_reducible refine Below.drew ?_))))) (fail)
          all_goals (go_wp2_with fail)
          have hmk : makeL r p move ⟨0, T.1, T.2, L.last, n⟩ = ⟨0, move, s1 - s2, false, T.1, T.2, 1 - p.player⟩ := by
            obtain ⟨a1, a2, a3⟩ := HVS.out
            have b1 : T.2.getD p.player.toNat 0 = s1 := by rw [hplN, a1]; simp [hT2l]
            have b2 : p.stores.getD p.player.toNat 0 = s2 := by rw [hplN, a2]; simp [hpsl]
            have b3 : (r.again && decide (L.last = -1)) = false := by rw [HAG.out]; simp
            unfold makeL
            rw [if_pos rfl]
            simp only [b1, b2, b3]; rfl
          refine bodyPost_ret (v := .tuple #[(⟨0, move, s1 - s2, false, T.1, T.2, 1 - p.player⟩ : Mk).val ua uc (some ⟨vg, 0, none⟩) vc, .int .i64 0]) (by simp [results, Try.results113, go_sem, x0, x1, x2, x3, x4, x5, hf', zR3]) rfl ?_
          rw [HEK.out, hmk]
          refine ⟨ua, uc, some ⟨vg, 0, none⟩, vc, rfl, ⟨?_, ?_, HO3.out.apart⟩, ?_⟩
          · have k0 := HO3.out.pits
            dsimp only at k0 ⊢
            refine ownsRow_le (base := wc.heap.size) ?_ (by omega)
            repeat (first | (with_reducible exact k0) | (with_reducible refine World.ownsRow.alloc ?_ _) | ((with_reducible refine ownsRow_setCell_below ?_ ?_ _); rotate_left; (simp <;> omega)) | (with_reducible refine own_below ?_ (below_draws _ _ _) (Nat.le_refl _)) | (with_reducible refine World.ownsRow.drew ?_))
          · have k0 := HO3.out.stores
            dsimp only at k0 ⊢
            refine ownsRow_le (base := wc.heap.size) ?_ (by omega)
            repeat (first | (with_reducible exact k0) | (with_reducible refine World.ownsRow.alloc ?_ _) | ((with_reducible refine ownsRow_setCell_below ?_ ?_ _); rotate_left; (simp <;> omega)) | (with_reducible refine own_below ?_ (below_draws _ _ _) (Nat.le_refl _)) | (with_reducible refine World.ownsRow.drew ?_))
          · repeat (first | (with_reducible exact BW3) | ((with_reducible refine Below.setCell ?_ ?_ _); rotate_left; (simp <;> omega)) | ((with_reducible refine Below.alloc ?_ ?_ _); rotate_left; (first | omega | (simp <;> omega))) | (with_reducible refine Below.trans ?_ (below_draws _ _ _)) | (with_reducible refine Below.drew ?_))
        · rw [hag] at c6
          have HAG := Lib.hid hag
          clear hag hB
          have q1 : w3.cell? ⟨pb, po + 2, none⟩ = some (.int .i64 p.player) := d2
          by_cases hlast : L.last = -1
          · have e3 : (L.last == -1) = true := by simpa using hlast
            have HLS := Lib.hid hlast
            clear hlast
            go_wp2_with fail
            go_region_held3 (fun w' => ∀ b o, b < w3.heap.size + 1 → w'.cell? ⟨b, o, none⟩ = (w3.alloc (.cells (snC T.1 T.2 L.last n ua uc (some ⟨vg, 0, none⟩) vc) 148)).cell? ⟨b, o, none⟩) ((intro b o hbo; first | rfl | exact (below_alloc1 _ _).cell (show (Addr.mk b o none).block < _ by simpa using hbo) | skip)) (fail)
            go_wp2_with fail
            go_region_held3 (fun w' => ∀ b o, b < w3.heap.size + 1 → w'.cell? ⟨b, o, none⟩ = (w3.alloc (.cells (snC T.1 T.2 L.last n ua uc (some ⟨vg, 0, none⟩) vc) 148)).cell? ⟨b, o, none⟩) ((intro b o hbo; first | rfl | exact (below_alloc1 _ _).cell (show (Addr.mk b o none).block < _ by simpa using hbo) | (refine Below.cell (B := w3.heap.size + 1) ?_ (show (Addr.mk b o none).block < _ from hbo); repeat (first | (with_reducible exact Below.refl _ _) | ((with_reducible refine Below.setCell ?_ ?_ _); rotate_left; (simp <;> omega)) | ((with_reducible refine Below.alloc ?_ ?_ _); rotate_left; (first | omega | (simp <;> omega))) | (with_reducible refine Below.trans ?_ (below_draws _ _ _)) | (with_reducible refine Below.drew ?_))))) (fail)
            all_goals (go_wp2_with fail)
            have hmk : makeL r p move ⟨0, T.1, T.2, L.last, n⟩ = ⟨0, move, s1 - s2, true, T.1, T.2, p.player⟩ := by
              obtain ⟨a1, a2, a3⟩ := HVS.out
              have b1 : T.2.getD p.player.toNat 0 = s1 := by rw [hplN, a1]; simp [hT2l]
              have b2 : p.stores.getD p.player.toNat 0 = s2 := by rw [hplN, a2]; simp [hpsl]
              have b3 : (r.again && decide (L.last = -1)) = true := by rw [HAG.out, HLS.out]; simp
              unfold makeL
              rw [if_pos rfl]
              simp only [b1, b2, b3, if_true]
            refine bodyPost_ret (v := .tuple #[(⟨0, move, s1 - s2, true, T.1, T.2, p.player⟩ : Mk).val ua uc (some ⟨vg, 0, none⟩) vc, .int .i64 0]) (by simp [results, Try.results113, go_sem, x0, x1, x2, x3, x4, x5, hf', zR3]) rfl ?_
            rw [HEK.out, hmk]
            refine ⟨ua, uc, some ⟨vg, 0, none⟩, vc, rfl, ⟨?_, ?_, HO3.out.apart⟩, ?_⟩
            · have k0 := HO3.out.pits
              dsimp only at k0 ⊢
              refine ownsRow_le (base := wc.heap.size) ?_ (by omega)
              repeat (first | (with_reducible exact k0) | (with_reducible refine World.ownsRow.alloc ?_ _) | ((with_reducible refine ownsRow_setCell_below ?_ ?_ _); rotate_left; (simp <;> omega)) | (with_reducible refine own_below ?_ (below_draws _ _ _) (Nat.le_refl _)) | (with_reducible refine World.ownsRow.drew ?_))
            · have k0 := HO3.out.stores
              dsimp only at k0 ⊢
              refine ownsRow_le (base := wc.heap.size) ?_ (by omega)
              repeat (first | (with_reducible exact k0) | (with_reducible refine World.ownsRow.alloc ?_ _) | ((with_reducible refine ownsRow_setCell_below ?_ ?_ _); rotate_left; (simp <;> omega)) | (with_reducible refine own_below ?_ (below_draws _ _ _) (Nat.le_refl _)) | (with_reducible refine World.ownsRow.drew ?_))
            · repeat (first | (with_reducible exact BW3) | ((with_reducible refine Below.setCell ?_ ?_ _); rotate_left; (simp <;> omega)) | ((with_reducible refine Below.alloc ?_ ?_ _); rotate_left; (first | omega | (simp <;> omega))) | (with_reducible refine Below.trans ?_ (below_draws _ _ _)) | (with_reducible refine Below.drew ?_))
          · have e3 : (L.last == -1) = false := by simpa using hlast
            have HLS := Lib.hid hlast
            clear hlast
            go_wp2_with fail
            go_region_held3 (fun w' => ∀ b o, b < w3.heap.size + 1 → w'.cell? ⟨b, o, none⟩ = (w3.alloc (.cells (snC T.1 T.2 L.last n ua uc (some ⟨vg, 0, none⟩) vc) 148)).cell? ⟨b, o, none⟩) ((intro b o hbo; first | rfl | exact (below_alloc1 _ _).cell (show (Addr.mk b o none).block < _ by simpa using hbo) | skip)) (fail)
            go_wp2_with fail
            go_region_held3 (fun w' => ∀ b o, b < w3.heap.size + 1 → w'.cell? ⟨b, o, none⟩ = (w3.alloc (.cells (snC T.1 T.2 L.last n ua uc (some ⟨vg, 0, none⟩) vc) 148)).cell? ⟨b, o, none⟩) ((intro b o hbo; first | rfl | exact (below_alloc1 _ _).cell (show (Addr.mk b o none).block < _ by simpa using hbo) | (refine Below.cell (B := w3.heap.size + 1) ?_ (show (Addr.mk b o none).block < _ from hbo); repeat (first | (with_reducible exact Below.refl _ _) | ((with_reducible refine Below.setCell ?_ ?_ _); rotate_left; (simp <;> omega)) | ((with_reducible refine Below.alloc ?_ ?_ _); rotate_left; (first | omega | (simp <;> omega))) | (with_reducible refine Below.trans ?_ (below_draws _ _ _)) | (with_reducible refine Below.drew ?_))))) (fail)
            all_goals (go_wp2_with fail)
            have hmk : makeL r p move ⟨0, T.1, T.2, L.last, n⟩ = ⟨0, move, s1 - s2, false, T.1, T.2, 1 - p.player⟩ := by
              obtain ⟨a1, a2, a3⟩ := HVS.out
              have b1 : T.2.getD p.player.toNat 0 = s1 := by rw [hplN, a1]; simp [hT2l]
              have b2 : p.stores.getD p.player.toNat 0 = s2 := by rw [hplN, a2]; simp [hpsl]
              have b3 : (r.again && decide (L.last = -1)) = false := by rw [HAG.out]; simp [HLS.out]
              unfold makeL
              rw [if_pos rfl]
              simp only [b1, b2, b3]; rfl
            refine bodyPost_ret (v := .tuple #[(⟨0, move, s1 - s2, false, T.1, T.2, 1 - p.player⟩ : Mk).val ua uc (some ⟨vg, 0, none⟩) vc, .int .i64 0]) (by simp [results, Try.results113, go_sem, x0, x1, x2, x3, x4, x5, hf', zR3]) rfl ?_
            rw [HEK.out, hmk]
            refine ⟨ua, uc, some ⟨vg, 0, none⟩, vc, rfl, ⟨?_, ?_, HO3.out.apart⟩, ?_⟩
            · have k0 := HO3.out.pits
              dsimp only at k0 ⊢
              refine ownsRow_le (base := wc.heap.size) ?_ (by omega)
              repeat (first | (with_reducible exact k0) | (with_reducible refine World.ownsRow.alloc ?_ _) | ((with_reducible refine ownsRow_setCell_below ?_ ?_ _); rotate_left; (simp <;> omega)) | (with_reducible refine own_below ?_ (below_draws _ _ _) (Nat.le_refl _)) | (with_reducible refine World.ownsRow.drew ?_))
            · have k0 := HO3.out.stores
              dsimp only at k0 ⊢
              refine ownsRow_le (base := wc.heap.size) ?_ (by omega)
              repeat (first | (with_reducible exact k0) | (with_reducible refine World.ownsRow.alloc ?_ _) | ((with_reducible refine ownsRow_setCell_below ?_ ?_ _); rotate_left; (simp <;> omega)) | (with_reducible refine own_below ?_ (below_draws _ _ _) (Nat.le_refl _)) | (with_reducible refine World.ownsRow.drew ?_))
            · repeat (first | (with_reducible exact BW3) | ((with_reducible refine Below.setCell ?_ ?_ _); rotate_left; (simp <;> omega)) | ((with_reducible refine Below.alloc ?_ ?_ _); rotate_left; (first | omega | (simp <;> omega))) | (with_reducible refine Below.trans ?_ (below_draws _ _ _)) | (with_reducible refine Below.drew ?_))

end Go.Proofs.Ytbjgigdkbjabaaa
