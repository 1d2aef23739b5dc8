/- SMov: a move is sown: the reference's functions. Each contract holds for every argument, under the premises that it states. -/
import Derived.Test.YtbjgigdkbjabaaaCapP
import Derived.Test.YtbjgigdkbjabaaaPos2
import Derived.Deep.CutRange
import Derived.StillTailTactics
namespace Go.Proofs.Ytbjgigdkbjabaaa
set_option linter.unusedSimpArgs false
set_option linter.unusedVariables false
set_option linter.unnecessarySimpa false
open Go.RowKit Go.ChangeShapes Go.WideShapes Go.ChangeAt Go.Joins

/-- what is sown, as a value -/
@[go_sem] def snC (P S : List Int) (last laps : Int) (pa : Option Addr) (pc : Nat) (sa : Option Addr) (sc : Nat) : Array Value := #[.slice pa P.length pc, .slice sa S.length sc, .int .i64 last, .int .i64 laps]
@[go_sem] def snV (P S : List Int) (last laps : Int) (pa : Option Addr) (pc : Nat) (sa : Option Addr) (sc : Nat) : Value := .agg (snC P S last laps pa pc sa sc)
@[go_sem] def snZ : Value := .agg #[.slice none 0 0, .slice none 0 0, .int .i64 0, .int .i64 0]
/-- what a move leads to, or that it is endless -/
def SowV (w : World) (o : Option (Lap × Int)) (e : Ending) (w' : World) : Prop :=
  (o = none ∧ e = .returned (.tuple #[snZ, .slice none 0 0, .bool false]) ∧ Below w.heap.size w w') ∨ ∃ L n pa pc sa sc ta tc, o = some (L, n) ∧ e = .returned (.tuple #[snV L.pits L.stores L.last n pa pc sa sc, .slice ta L.path.length tc, .bool true]) ∧
    POwn w' w.heap.size ⟨L.pits, L.stores, 0⟩ pa pc sa sc ∧ OwnI w' w.heap.size ta tc L.path ∧ Below w.heap.size w w'
theorem P.At.below {B : Nat} {w w' : World} {b o : Nat} {p : P} {pa sa : Option Addr} {pc sc : Nat} (h : P.At w b o p pa pc sa sc) (hb : Below B w w') (hB : b < B) : P.At w' b o p pa pc sa sc :=
  ⟨(hb.cell (show (Addr.mk b _ none).block < B from hB)).trans h.c0, (hb.cell (show (Addr.mk b _ none).block < B from hB)).trans h.c1, (hb.cell (show (Addr.mk b _ none).block < B from hB)).trans h.c2⟩

/-- two rows and a box, made in any order -/
theorem two_rows {w1 w2 wx : World} {lo1 lo2 base nb pc sc pg sg : Nat} {P S : List Int} (ho1 : w1.ownsRow lo1 2 1 (.slice (some ⟨pg, 0, none⟩) P.length pc) P.length (P.map (Value.int .i64)))
    (ho2 : w2.ownsRow lo2 2 1 (.slice (some ⟨sg, 0, none⟩) S.length sc) S.length (S.map (Value.int .i64))) (h12 : ∀ k, k < w1.heap.size → w2.heap[k]? = w1.heap[k]?) (h2x : ∀ k, k < w2.heap.size → k ≠ nb → wx.heap[k]? = w2.heap[k]?)
    (n1 : nb < lo1 ∨ w1.heap.size ≤ nb) (n2 : nb < lo2 ∨ w2.heap.size ≤ nb) (l1 : base ≤ lo1) (l2 : w1.heap.size ≤ lo2) (hs : w1.heap.size ≤ w2.heap.size)
    (hnb : base ≤ nb) (c0 : wx.cell? ⟨nb, 0, none⟩ = some (.slice (some ⟨pg, 0, none⟩) P.length pc)) (c1 : wx.cell? ⟨nb, 1, none⟩ = some (.slice (some ⟨sg, 0, none⟩) S.length sc)) :
    SnI base wx nb 0 pg pc sg sc P S := by
  obtain ⟨hp1, hp2⟩ := own_head ho1
  obtain ⟨hs1, hs2⟩ := own_head ho2
  refine ⟨c0, c1, ?_, ?_, hnb, by omega, by omega, by omega⟩
  · refine ownsRow_le (base := lo1) (own_stab (hi := w1.heap.size) (Nat.le_refl _) ho1 (fun k hk => by simp [Value.ownBlock] at hk; omega) (fun k k1 k2 => ?_)) l1
    rw [h2x k (by omega) (by omega), h12 k k2]
  · refine ownsRow_le (base := lo2) (own_stab (hi := w2.heap.size) (Nat.le_refl _) ho2 (fun k hk => by simp [Value.ownBlock] at hk; omega) (fun k k1 k2 => ?_)) (by omega)
    rw [h2x k k2 (by omega)]
structure SmSt (base : Nat) (w wr : World) (nb pg pc sg sc : Nat) (r : R) (pn : Nat) (tot : Int) (o : Option (Lap × Int)) (k : Nat) (L : Lap) (ta : Option Addr) (tc : Nat) : Prop where
  go : sowGo r pn k L = o
  k1 : k ≤ 99
  pt : (L.path.length : Int) + k * tot ≤ 1000000000
  bd : Brd r L.pits L.stores tot
  po : PlaceOk r L.last
  sn : SnI base wr nb 0 pg pc sg sc L.pits L.stores
  fl : Fld wr nb 0 L.last (100 - k)
  ow : OwnI wr base ta tc L.path
  ap : TAp ta L.path.length tc nb pg sg
  bl : Below base w wr
def lapsAt (w : World) (sb : Nat) : Nat := 100 - (intOf ((w.cell? ⟨sb, 3, none⟩).getD (.int .i64 0))).toNat
theorem Fld.leftAt {w : World} {sb : Nat} {last n : Int} (h : Fld w sb 0 last n) : lapsAt w sb = 100 - n.toNat := by
  unfold lapsAt; rw [show (3 : Nat) = 0 + 3 from rfl, h.c3]; rfl
set_option maxRecDepth 100000 in
set_option maxHeartbeats 16000000 in
theorem l05Sow_c (rb ro pb po : Nat) (r : R) (p : P) (pn fn : Nat) (tot : Int) (pa sa : Option Addr) (pc sc : Nat) (w : World) (hr : R.At w rb ro r) (hp : P.At w pb po p pa pc sa sc) (h : PRow w p pa sa)
    (hb : r.Bd) (hpn : p.player = pn) (hpn1 : pn ≤ 1) (hB : Brd r p.pits p.stores tot) (htot : tot ≤ 1000000) (hfn : fn < p.pits.length) :
    Calls Try.prog 154 #[.pointer (some ⟨rb, ro, none⟩), .pointer (some ⟨pb, po, none⟩), .int .i64 (fn : Int)] w (SowV w (sowP r pn fn p.pits p.stores)) := by
  have ht0 : 0 ≤ tot := by have := nn_sum hB.np; have := nn_sum hB.ns; have := hB.sm; omega
  have hlo := hb.lo
  have hhi := hb.hi
  have m1 : p.pits.length ≤ 16777216 := by have := hB.lp; omega
  have m2 : p.stores.length ≤ 16777216 := by have := hB.ls; omega
  have hrb : rb < w.heap.size := World.block_lt_of_cell? w _ hr.c0
  have hpb : pb < w.heap.size := World.block_lt_of_cell? w _ hp.c0
  obtain ⟨d0, d1, d2⟩ := (⟨hp.c0, hp.c1, hp.c2⟩ : _ ∧ _ ∧ _)
  have HBR := Lib.hid hB
  have HP := Lib.hid hp
  have HR := Lib.hid hr
  have H := Lib.hid h
  have l1 : 0 < p.pits.length := by have := hB.lp; omega
  have l2 : 0 < p.stores.length := by have := hB.ls; omega
  obtain ⟨o, ho⟩ : ∃ o, o = sowP r pn fn p.pits p.stores := ⟨_, rfl⟩
  rw [← ho]
  have HO := Lib.hid ho
  clear hp hr h hB ho
  go_enter Try.func154, Try.ntmps154
  go_upto_region 1 with fail
  go_cut [9] from 11 to 21 (fun s9 wx => ∃ nb pg qc sg tc, s9 = .pointer (some ⟨nb, 0, none⟩) ∧ SnI (w.heap.size + 1) wx nb 0 pg qc sg tc p.pits p.stores ∧ Fld wx nb 0 0 0 ∧ Below (w.heap.size + 1) (w.alloc (.cells #[.slice none 0 0, .slice none 0 0, .int .i64 0, .int .i64 0] 148)) wx)
  case first =>
    go_region_held3 (fun w' => ∀ o, w'.cell? ⟨pb, o, none⟩ = w.cell? ⟨pb, o, none⟩)
      ((intro o; refine Below.cell (B := w.heap.size) ?_ (show (Addr.mk pb o none).block < _ from hpb); first | (with_reducible exact B2) | (with_reducible exact B2.alloc B2.size _) | (with_reducible exact B1) | (with_reducible exact B1.alloc B1.size _) | (with_reducible exact (below_alloc1 _ _).drew) | (with_reducible exact (below_alloc2 _ _ _).drew) | (repeat (first | (with_reducible exact B2) | ((with_reducible refine Below.setCell ?_ ?_ _); rotate_left; (simp <;> omega))))))
      (first
        | (go_at_call 105; have tk := hb1; first | (refine (l00Own_c sa sc p.stores _ (H.out.stores.below B1 (Nat.le_refl _)) m2).mono ?_) | (refine (l00Own_c sa sc p.stores _ (H.out.stores.below (B1.alloc B1.size _) (Nat.le_refl _)) m2).mono ?_)
           rintro e w2 ⟨sa', sc', rfl, ho2, hb2⟩
           have B2 : Below w.heap.size w w2 := (by first | exact below_next B1 hb2 | exact below_next (B1.alloc B1.size _) hb2)
           obtain ⟨hc2, hf2⟩ := bcell hb2
           have z2 := hb2.size
           try simp only [World.size_alloc, World.size_drew] at hc2 hf2 z2
           have z2a : w.heap.size < w2.heap.size := (by omega)
           try have z2b : w.heap.size + 1 < w2.heap.size := (by omega)
           try have z2c : w1.heap.size < w2.heap.size := (by omega))
        | (go_at_call 105; first | (refine (l00Own_c pa pc p.pits _ (H.out.pits.below (below_alloc1 _ _).drew (Nat.le_refl _)) m1).mono ?_) | (refine (l00Own_c pa pc p.pits _ (H.out.pits.below (below_alloc2 _ _ _).drew (Nat.le_refl _)) m1).mono ?_)
           rintro e w1 ⟨pa', pc', rfl, ho1, hb1⟩
           have B1 : Below w.heap.size w w1 := (by first | exact below_next (below_alloc1 _ _).drew hb1 | exact below_next (below_alloc2 _ _ _).drew hb1)
           obtain ⟨hc1, hf1⟩ := bcell hb1
           have z1 := hb1.size
           try simp only [World.size_alloc, World.size_drew] at hc1 hf1 z1
           have z1a : w.heap.size < w1.heap.size := (by omega)
           try have z1b : w.heap.size + 1 < w1.heap.size := (by omega)))
    all_goals (go_wp2_with fail)
    all_goals go_meet
    all_goals
      have h12 : ∀ k, k < w1.heap.size → w2.heap[k]? = w1.heap[k]? := fun k hk => (by first | exact hb2.block k hk | exact (below_next (below_alloc1 _ _) hb2).block k hk)
      obtain ⟨pg, rfl, hp1, hp2⟩ := own_lt_n ho1 l1
      obtain ⟨sg, rfl, hs1, hs2⟩ := own_lt_n ho2 l2
      simp only [World.size_alloc, World.size_drew] at ho1 ho2 hp1 hp2 hs1 hs2
      refine ⟨_, pg, pc', sg, sc', rfl, two_rows ho1 ho2 h12 ?_ ?_ ?_ ?_ ?_ ?_ ?_ ?_ ?_, ⟨?_, ?_, ?_⟩, ?_⟩
      · first | (intro k hk hn; rw [Below.heap_setCell _ _ _ k hn, Below.heap_setCell _ _ _ k hn, Below.heap_setCell _ _ _ k hn, Below.heap_setCell _ _ _ k hn]) | exact fun k hk _ => (below_alloc1 w2 _).block k hk
      · omega
      · omega
      · omega
      · omega
      · omega
      · omega
      · first | (simp [go_sem, hc1, hc2, hf1, hf2, z1a, z2a]; done) | (simp [go_sem, hc1, hc2, hf1, hf2, z1a, z2a, z1b, z2b]; done)
      · first | (simp [go_sem, hc1, hc2, hf1, hf2, z1a, z2a]; done) | (simp [go_sem, hc1, hc2, hf1, hf2, z1a, z2a, z1b, z2b]; done)
      · first | (simp [go_sem, hc1, hc2, hf1, hf2, z1a, z2a]; done) | (simp [go_sem, hc1, hc2, hf1, hf2, z1a, z2a, z1b, z2b]; done)
      · first | (simp [go_sem, hc1, hc2, hf1, hf2, z1a, z2a]; done) | (simp [go_sem, hc1, hc2, hf1, hf2, z1a, z2a, z1b, z2b]; done)
      · intro o; first | (simp [go_sem, hc1, hc2, hf1, hf2, z1a, z2a]; done) | (simp [go_sem, hc1, hc2, hf1, hf2, z1a, z2a, z1b, z2b]; done)
      · have BZ1 : Below (w.heap.size + 1) (w.alloc (.cells #[.slice none 0 0, .slice none 0 0, .int .i64 0, .int .i64 0] 148)) w1 := by
          first | exact (Below.refl (w.heap.size + 1) _).drew.trans (hb1.mono (by simp)) | exact ((Below.refl (w.heap.size + 1) _).alloc (by simp) _).drew.trans (hb1.mono (by simp))
        have BZ2 : Below (w.heap.size + 1) (w.alloc (.cells #[.slice none 0 0, .slice none 0 0, .int .i64 0, .int .i64 0] 148)) w2 := by
          first | exact BZ1.trans (hb2.mono (by omega)) | exact (BZ1.alloc (by omega) _).trans (hb2.mono (by simp; omega))
        first | exact BZ2.alloc (by omega) _ | (repeat (first | (with_reducible exact BZ2) | ((with_reducible refine Below.setCell ?_ ?_ _); rotate_left; (simp <;> omega))))
  case rest =>
    obtain ⟨nb, pg, qc, sg, tc, rfl, hsn, hfl, hbz⟩ := hcut
    have e2 : wc.cell? ⟨pb, po + 2, none⟩ = some (.int .i64 pn) := by
      exact (hbz.cell (show (Addr.mk pb (po + 2) none).block < w.heap.size + 1 by simp; omega)).trans (((below_alloc1 w _).cell (show (Addr.mk pb (po + 2) none).block < w.heap.size from hpb)).trans (by rw [← hpn]; exact HP.out.c2))
    have er : R.At wc rb ro r := (HR.out.below (below_alloc1 w _) hrb).below hbz (by omega)
    have HNIL : OwnI (wc.alloc (.cells #[] 2)) (w.heap.size + 1) (some ⟨wc.heap.size, 0, none⟩) 0 [] := by
      have := World.ownsRow_lit (base := w.heap.size + 1) (e := 2) (size := 1) wc #[] 0 (by have := hbz.size; simp at this; omega) (Nat.zero_le _) rfl
      simpa [OwnI] using this
    have hnb := hsn.lt
    have hpg := own_head hsn.op
    have hsg := own_head hsn.os
    have HLC := Lib.hid (l05Lap_c (w.heap.size + 1) rb ro nb pg qc sg tc r hb pn fn p.pits p.stores [] 0 0 (some ⟨wc.heap.size, 0, none⟩) 0 _ (er.below (below_alloc1 _ _) (by omega)) (by omega) (hsn.below (below_alloc1 _ _)) ((hfl.alloc hnb _).c2) ((hfl.alloc hnb _).c3) ((hfl.alloc hnb _).fz) HNIL
      (by intro k hk; simp [Value.ownBlock] at hk; omega) hpn1 HBR.out.lp HBR.out.ls hfn (HBR.out.bp (by omega)) (HBR.out.bs (by omega)) (by simp) ⟨by omega, by omega⟩)
    have HBZ := Lib.hid hbz
    have HER := Lib.hid er
    have hLB := lapP_brd hb pn fn ⟨by omega, by omega⟩ p.pits p.stores [] tot HBR.out hfn
    have hle := HBR.out.bp (Int.le_refl tot) _ (List.getElem_mem hfn)
    have ho := HO.out
    unfold sowP at ho
    obtain ⟨L0, hL0⟩ : ∃ L0, L0 = lapP r pn fn p.pits p.stores [] := ⟨_, rfl⟩
    rw [← hL0] at HLC ho hLB
    obtain ⟨hB1, hB2, hB3⟩ := hLB
    have hB2' : (L0.path.length : Int) ≤ tot := by rw [hB2]; simp; omega
    have HB0 := Lib.hid (⟨hB1, hB2', hB3, ho⟩ : Brd r L0.pits L0.stores tot ∧ (L0.path.length : Int) ≤ tot ∧ PlaceOk r L0.last ∧ o = sowGo r pn 99 L0)
    clear hbz er hsn hfl HNIL hB1 hB2 hB2' hB3 ho hL0 hle
    go_wp2_with (go_at_call 179; refine HLC.out.mono ?_; rintro e w1 ⟨ta1, tc1, rfl, hs1, hx2, hx3, hfz1, ho1, ha1, hb1⟩)
    have HST := Lib.hid (⟨HB0.out.2.2.2.symm, by omega, by have := HB0.out.2.1; push_cast; omega, HB0.out.1, HB0.out.2.2.1, hs1, ⟨hx2, hx3, hfz1⟩, ho1, ha1, HBZ.out.trans (((Below.refl _ _).alloc (by have := HBZ.out.size; simp at this; omega) _).trans hb1)⟩ :
      SmSt (w.heap.size + 1) (w.alloc (.cells #[.slice none 0 0, .slice none 0 0, .int .i64 0, .int .i64 0] 148)) w1 nb pg qc sg tc r pn tot o 99 L0 ta1 tc1)
    clear hs1 hx2 hx3 hfz1 ho1 ha1 hb1 HB0 HLC hnb hpg hsg
    go_loopw [10] (fun s wr => ∃ (k : Nat) (L : Lap) (ta : Option Addr) (tc' : Nat), s = .slice ta L.path.length tc' ∧ SmSt (w.heap.size + 1) (w.alloc (.cells #[.slice none 0 0, .slice none 0 0, .int .i64 0, .int .i64 0] 148)) wr nb pg qc sg tc r pn tot o k L ta tc') (fun _ wr => lapsAt wr nb)
    case atStart => exact ⟨99, L0, _, _, rfl, HST.out⟩
    case round =>
      clear HST
      obtain ⟨k, L, ta, tc', rfl, hst⟩ := hrel
      have hk := hst.k1
      have HST := Lib.hid hst
      have er : R.At _ rb ro r := (HR.out.below (below_alloc1 w _) hrb).below hst.bl (by omega)
      obtain ⟨r0, r1, r2, r3, r4, r5, r6, r7, r8⟩ := er
      have ep : wr.cell? ⟨pb, po + 2, none⟩ = some (.int .i64 pn) := by
        exact (hst.bl.cell (show (Addr.mk pb (po + 2) none).block < w.heap.size + 1 by simp; omega)).trans (((below_alloc1 w _).cell (show (Addr.mk pb (po + 2) none).block < w.heap.size from hpb)).trans (by rw [← hpn]; exact HP.out.c2))
      have n0 := hst.sn.c0
      have n1 := hst.sn.c1
      obtain ⟨n2, n3, nz⟩ := hst.fl
      simp only [Nat.zero_add] at n1 n2 n3
      have hbx : ∀ j v, (#[Value.slice none 0 0, .slice none 0 0, .int .i64 0, .int .i64 0] : Array Value).toList[j]? = some v → wr.cell? ⟨w.heap.size, j, none⟩ = some v := fun j v hv =>
        (hst.bl.cell (show (Addr.mk w.heap.size j none).block < w.heap.size + 1 by simp)).trans (by simpa using hv)
      have hby : ∀ j, wr.frozen? ⟨w.heap.size, j, none⟩ = false := fun j => (World.frozen?_of_block (w := w.alloc (.cells #[.slice none 0 0, .slice none 0 0, .int .i64 0, .int .i64 0] 148)) (hst.bl.block _ (show w.heap.size < w.heap.size + 1 by omega))).trans (by simp)
      obtain ⟨x0, x1, x2, x3⟩ := (⟨hbx 0 _ rfl, hbx 1 _ rfl, hbx 2 _ rfl, hbx 3 _ rfl⟩ : _ ∧ _ ∧ _ ∧ _)
      have hxn : ¬ w.heap.size = nb := by have := hst.sn.nb0; omega
      have hxm : ¬ nb = w.heap.size := by have := hst.sn.nb0; omega
      clear hbx
      have HFIN : Hid (POwn ((((wr.setCell ⟨w.heap.size, 0, none⟩ (.slice (some ⟨pg, 0, none⟩) L.pits.length qc)).setCell ⟨w.heap.size, 1, none⟩ (.slice (some ⟨sg, 0, none⟩) L.stores.length tc)).setCell ⟨w.heap.size, 2, none⟩ (.int .i64 L.last)).setCell ⟨w.heap.size, 3, none⟩ (.int .i64 (100 - k))) w.heap.size ⟨L.pits, L.stores, 0⟩ (some ⟨pg, 0, none⟩) qc (some ⟨sg, 0, none⟩) tc ∧
          OwnI ((((wr.setCell ⟨w.heap.size, 0, none⟩ (.slice (some ⟨pg, 0, none⟩) L.pits.length qc)).setCell ⟨w.heap.size, 1, none⟩ (.slice (some ⟨sg, 0, none⟩) L.stores.length tc)).setCell ⟨w.heap.size, 2, none⟩ (.int .i64 L.last)).setCell ⟨w.heap.size, 3, none⟩ (.int .i64 (100 - k))) w.heap.size ta tc' L.path ∧
          Below w.heap.size w ((((wr.setCell ⟨w.heap.size, 0, none⟩ (.slice (some ⟨pg, 0, none⟩) L.pits.length qc)).setCell ⟨w.heap.size, 1, none⟩ (.slice (some ⟨sg, 0, none⟩) L.stores.length tc)).setCell ⟨w.heap.size, 2, none⟩ (.int .i64 L.last)).setCell ⟨w.heap.size, 3, none⟩ (.int .i64 (100 - k)))) := by
        have k1 := hst.sn.op
        have k2 := hst.sn.os
        have k3 := hst.ow
        have k4 : Below w.heap.size w wr := (below_alloc1 w _).trans (hst.bl.mono (by omega))
        refine ⟨⟨ownsRow_le (base := w.heap.size + 1) ?_ (by omega), ownsRow_le (base := w.heap.size + 1) ?_ (by omega), .inr (by simp [Value.ownBlock]; exact hst.sn.n1)⟩, ownsRow_le (base := w.heap.size + 1) ?_ (by omega), ?_⟩
        · repeat (first | (with_reducible exact k1) | ((with_reducible refine ownsRow_setCell_below ?_ ?_ _); rotate_left; (simp <;> omega)))
        · repeat (first | (with_reducible exact k2) | ((with_reducible refine ownsRow_setCell_below ?_ ?_ _); rotate_left; (simp <;> omega)))
        · repeat (first | (with_reducible exact k3) | ((with_reducible refine ownsRow_setCell_below ?_ ?_ _); rotate_left; (simp <;> omega)))
        · repeat (first | (with_reducible exact k4) | ((with_reducible refine Below.setCell ?_ ?_ _); rotate_left; (simp <;> omega)))
      have HNO : Hid (moreP r L = false → o = some (L, (100 : Int) - (k : Int))) := fun hm => by
        have h := hst.go
        cases k with
        | zero => simp [sowGo, hm] at h; simpa using h.symm
        | succ k => simp [sowGo, hm] at h; rw [← h]; congr 2; omega
      have hmo : (r.relay = false) ∨ (r.relay = true ∧ ¬ 0 ≤ L.last) ∨ (∃ ln : Nat, r.relay = true ∧ L.last = ln ∧ ln < L.pits.length) := by
        cases r.relay
        · exact .inl rfl
        · by_cases h : 0 ≤ L.last
          · exact .inr (.inr ⟨L.last.toNat, rfl, by omega, by have := hst.bd.lp; rcases hst.po with h' | h' <;> omega⟩)
          · exact .inr (.inl ⟨rfl, h⟩)
      clear hst
      rcases hmo with hr1 | ⟨hr1, hr2⟩ | ⟨ln, hr1, hr2, hr3⟩
      · have hm : moreP r L = false := by simp [moreP, hr1]
        rw [hr1] at r4
        clear hr1
        have HM := Lib.hid hm
        clear hm
        go_wp2_with fail
        refine bodyPost_ret (v := .tuple #[snV L.pits L.stores L.last (100 - k) (some ⟨pg, 0, none⟩) qc (some ⟨sg, 0, none⟩) tc, .slice ta L.path.length tc', .bool true]) (by simp [results, Try.results154, go_sem, snV, snC, x0, x1, x2, x3, hby]) rfl (.inr ⟨L, 100 - k, some ⟨pg, 0, none⟩, qc, some ⟨sg, 0, none⟩, tc, ta, tc', HNO.out HM.out, rfl, HFIN.out.1, HFIN.out.2.1, HFIN.out.2.2⟩)
      · have hm : moreP r L = false := by simp [moreP, hr1]; intro h; exact absurd h hr2
        rw [hr1] at r4
        clear hr1
        have HM := Lib.hid hm
        clear hm
        go_wp2_with fail
        refine bodyPost_ret (v := .tuple #[snV L.pits L.stores L.last (100 - k) (some ⟨pg, 0, none⟩) qc (some ⟨sg, 0, none⟩) tc, .slice ta L.path.length tc', .bool true]) (by simp [results, Try.results154, go_sem, snV, snC, x0, x1, x2, x3, hby]) rfl (.inr ⟨L, 100 - k, some ⟨pg, 0, none⟩, qc, some ⟨sg, 0, none⟩, tc, ta, tc', HNO.out HM.out, rfl, HFIN.out.1, HFIN.out.2.1, HFIN.out.2.2⟩)
      · have hcell := HST.out.sn.op.cellAt ln (by omega)
        have hfro := HST.out.sn.op.frozenAt ln
        have hpv : (L.pits.map (Value.int .i64))[ln]? = some (.int .i64 L.pits[ln]) := by simp [hr3]
        rw [hpv] at hcell
        have hgd : L.pits.getD L.last.toNat 0 = L.pits[ln] := by rw [hr2]; simp [hr3]
        have hl0 : 0 ≤ L.last := by omega
        rw [hr1] at r4
        rw [hr2] at n2
        by_cases hpm : 1 < L.pits[ln]
        · have hm : moreP r L = true := by unfold moreP; rw [hgd]; simp [hr1, hl0, hpm]
          have HM := Lib.hid hm
          have HL2 := Lib.hid hr2
          have hpm' : L.pits[ln] > 1 := hpm
          have hln : ln < L.pits.length := hr3
          clear hm hr2 hl0 hr1 hpv hgd hpm HFIN HNO
          by_cases hk0 : k = 0
          · subst hk0
            have HGO := Lib.hid (show o = none from by have h := HST.out.go; simp [sowGo, HM.out] at h; exact h.symm)
            have HBL : Hid (Below w.heap.size w wr) := (below_alloc1 w _).trans (HST.out.bl.mono (by omega))
            simp only [Int.natCast_zero, Int.sub_zero] at n3
            go_wp2_with fail
            refine bodyPost_ret (v := .tuple #[snZ, .slice none 0 0, .bool false]) (by simp [results, Try.results154, go_sem, snZ, x0, x1, x2, x3, hby]) rfl (.inl ⟨HGO.out, rfl, ?_⟩)
            have k4 := HBL.out
            repeat (first | (with_reducible exact k4) | ((with_reducible refine Below.setCell ?_ ?_ _); rotate_left; (simp <;> omega)))
          · obtain ⟨k', rfl⟩ : ∃ k', k = k' + 1 := ⟨k - 1, by omega⟩
            have hge : ¬ (100 - ((k' + 1 : Nat) : Int)) ≥ 100 := by omega
            have hst := HST.out
            have hLB := lapP_brd hb pn ln ⟨by omega, by omega⟩ L.pits L.stores L.path tot hst.bd hln
            have hle := hst.bd.bp (Int.le_refl tot) _ (List.getElem_mem hln)
            have hpt := hst.pt
            have hTl : L.path.length ≤ 1000000000 := by
              have : 0 ≤ ((k' + 1 : Nat) : Int) * tot := Int.mul_nonneg (by omega) ht0
              omega
            have HLC := Lib.hid (l05Lap_c (w.heap.size + 1) rb ro nb pg qc sg tc r hb pn ln L.pits L.stores L.path L.last (100 - ((k' + 1 : Nat) : Int)) ta tc' wr.drew (((HR.out.below (below_alloc1 w _) hrb).below hst.bl (by omega)).below (Below.refl (w.heap.size + 1) wr).drew (by omega)) (by omega) (hst.sn.below (Below.refl _ wr).drew) (hst.fl.below (Below.refl _ wr).drew).c2 (hst.fl.below (Below.refl _ wr).drew).c3 (hst.fl.below (Below.refl _ wr).drew).fz (own_below hst.ow (Below.refl _ wr).drew (Nat.le_refl _)) hst.ap hpn1 hst.bd.lp hst.bd.ls hln (hst.bd.bp (by omega)) (hst.bd.bs (by omega)) hTl ⟨by omega, by omega⟩)
            have hgo := hst.go
            simp only [sowGo, HM.out, if_true] at hgo
            rw [HL2.out] at hgo
            obtain ⟨L1, hL1⟩ : ∃ L1, L1 = lapP r pn ln L.pits L.stores L.path := ⟨_, rfl⟩
            rw [← hL1] at HLC hgo hLB
            obtain ⟨hB1, hB2, hB3⟩ := hLB
            have HB1 := Lib.hid (⟨hgo, by omega, by rw [hB2]; rw [Int.natCast_add, Int.add_mul] at hpt; simp at hpt; omega, hB1, hB3⟩ : sowGo r pn k' L1 = o ∧ k' ≤ 99 ∧ (L1.path.length : Int) + k' * tot ≤ 1000000000 ∧ Brd r L1.pits L1.stores tot ∧ PlaceOk r L1.last)
            have HLEFT := Lib.hid (show lapsAt wr nb = k' + 1 from by rw [hst.fl.leftAt]; omega)
            have HBL := Lib.hid hst.bl
            clear hst hgo hB1 hB2 hB3 hL1 hpt hle HST
            go_wp2_with fail
            go_still_tail 8, (by kernel_rfl)
            change wpList _ _ _ _ _ wr.drew
            go_wp2_with (go_at_call 179; refine HLC.out.mono ?_; rintro e w1 ⟨ta1, tc1, rfl, hs1, hx2, hx3, hfz1, ho1, ha1, hb1⟩)
            have e1 : (100 - ((k' + 1 : Nat) : Int) + 1) = 100 - k' := by omega
            rw [e1] at hx3
            have HS1 := Lib.hid (⟨HB1.out.1, HB1.out.2.1, HB1.out.2.2.1, HB1.out.2.2.2.1, HB1.out.2.2.2.2, hs1, ⟨hx2, hx3, hfz1⟩, ho1, ha1, HBL.out.drew.trans hb1⟩ :
              SmSt (w.heap.size + 1) (w.alloc (.cells #[.slice none 0 0, .slice none 0 0, .int .i64 0, .int .i64 0] 148)) w1 nb pg qc sg tc r pn tot o k' L1 ta1 tc1)
            clear hs1 hx2 hx3 hfz1 ho1 ha1 hb1 HB1 HLC
            go_roundw
            case rel => exact ⟨k', L1, ta1, tc1, rfl, HS1.out⟩
            case measure => (rw [HLEFT.out, HS1.out.fl.leftAt]; omega)
        · have hm : moreP r L = false := by unfold moreP; rw [hgd]; simp [hr1, hl0, hpm]
          clear hr1 hpv hgd
          have HM := Lib.hid hm
          have HL2 := Lib.hid hr2
          have hpm' : ¬ L.pits[ln] > 1 := hpm
          clear hm hr2 hl0
          go_wp2_with fail
          rw [HL2.out] at HFIN
          refine bodyPost_ret (v := .tuple #[snV L.pits L.stores ln (100 - k) (some ⟨pg, 0, none⟩) qc (some ⟨sg, 0, none⟩) tc, .slice ta L.path.length tc', .bool true]) (by simp [results, Try.results154, go_sem, snV, snC, x0, x1, x2, x3, hby]) rfl (.inr ⟨L, 100 - k, some ⟨pg, 0, none⟩, qc, some ⟨sg, 0, none⟩, tc, ta, tc', HNO.out HM.out, by rw [HL2.out], HFIN.out.1, HFIN.out.2.1, HFIN.out.2.2⟩)


/-! ### SCode: the code of a move: the reference's function. The contract holds for every argument, under the premises that it states. -/
theorem P.At.draw {w : World} {b o : Nat} {p : P} {pa sa : Option Addr} {pc sc : Nat} (h : P.At w b o p pa pc sa sc) (n : Nat) : P.At (w.drewN n) b o p pa pc sa sc := ⟨h.c0, h.c1, h.c2⟩
set_option maxRecDepth 100000 in
set_option maxHeartbeats 4000000 in
theorem l05Code_c (rb ro pb po : Nat) (r : R) (p : P) (move : Int) (pa sa : Option Addr) (pc sc : Nat) (w : World) (hr : R.At w rb ro r) (hp : P.At w pb po p pa pc sa sc) (h : PRow w p pa sa) (m1 : p.pits.length ≤ 16777216) (m2 : p.stores.length ≤ 16777216) :
    Calls Try.prog 153 #[.pointer (some ⟨rb, ro, none⟩), .pointer (some ⟨pb, po, none⟩), .int .i64 move] w fun e w' => e = .returned (.int .i64 (codeP r p move)) ∧ ∃ m, w' = w.drewN m := by
  have HR := Lib.hid hr
  have HP := Lib.hid hp
  have c0 := hr.c0
  obtain ⟨d0, d1, d2⟩ := hp
  clear hr
  cases hok : p.ok r
  · have HOK := Lib.hid hok
    go_enter Try.func153, Try.ntmps153
    go_wp2_with fail
    refine (l04Ok_c rb ro pb po r p pa sa pc sc _ HR.out HP.out h m1 m2).mono ?_
    rintro e w1 ⟨rfl, m, rfl⟩
    rw [hok]
    clear hok
    go_wp2
    go_ret
    exact ⟨by simp [codeP, HOK.out], m, rfl⟩
  obtain ⟨hbd, ⟨pn, hpn, hpn1⟩, t, hB, ht0, ht1⟩ := P.ok_parts hok
  have hlo := hbd.lo
  have hhi := hbd.hi
  obtain ⟨b, o, rfl, hbs, hcs⟩ := Ints.open h.pits (by have := hB.lp; omega)
  have HOK := Lib.hid hok
  cases hmv : inB move 0 (r.pits - 1)
  · have HMV := Lib.hid hmv
    go_enter Try.func153, Try.ntmps153
    go_wp2_with fail
    refine (l04Ok_c rb ro pb po r p _ sa pc sc _ HR.out HP.out h m1 m2).mono ?_
    rintro e w1 ⟨rfl, m, rfl⟩
    rw [hok]
    clear hok
    go_wp2_with (go_at_call 72; refine (l00In_c _ _ _ _).mono ?_; rintro e w' ⟨rfl, rfl⟩; rw [HMV.out])
    go_ret
    exact ⟨by simp [codeP, HOK.out, HMV.out], _, rfl⟩
  have mv := inB_iff.1 hmv
  obtain ⟨fn, hfn, hfl⟩ := from_ok hok mv
  have hcf := hcs fn hfl
  have HFN : Hid (codeP r p move = if p.pits[fn] = 0 then 6 else 0) := by
    simp only [Hid, codeP, hok, hmv, hfn]
    simp [hfl]
  have hm0 : 0 ≤ p.player * r.pits := Int.mul_nonneg (by omega) (by omega)
  have hm8 : p.player * r.pits ≤ 8 := by
    have := Int.mul_le_mul (a := p.player) (b := r.pits) (c := 1) (d := 8) (by omega) hhi (by omega) (by omega)
    omega
  obtain ⟨v, hv⟩ : ∃ v, v = p.pits[fn] := ⟨_, rfl⟩
  rw [← hv] at hcf HFN
  clear hv
  obtain ⟨mv0, mv1⟩ := mv
  clear hpn hcs
  go_enter Try.func153, Try.ntmps153
  go_wp2_with fail
  refine (l04Ok_c rb ro pb po r p _ sa pc sc _ HR.out HP.out h m1 m2).mono ?_
  rintro e w1 ⟨rfl, m, hw1⟩
  rw [hok]
  clear hok
  have hxc : ∀ b o, w1.cell? ⟨b, o, none⟩ = w.cell? ⟨b, o, none⟩ := fun b o => by rw [hw1]; simp
  rw [← hxc] at c0 d0 d1 d2 hcf
  have HW1 := Lib.hid hw1
  clear hw1 hxc
  go_wp2_with fail
  refine (l00In_c _ _ _ _).mono ?_
  rintro e w' ⟨rfl, rfl⟩
  rw [hmv]
  by_cases hz : v = 0
  · rw [if_pos hz] at HFN
    have hz' : (v == 0) = true := by simpa using hz
    clear hz
    go_wp2_with fail
    go_region
    go_wp2
    go_ret
    exact ⟨by rw [HFN.out]; rfl, by rw [HW1.out]; exact ⟨_, World.drewN_drewN _ _ _⟩⟩
  · rw [if_neg hz] at HFN
    have hz' : (v == 0) = false := by simpa using hz
    clear hz
    go_wp2_with fail
    go_region
    go_wp2
    go_ret
    exact ⟨by rw [HFN.out]; rfl, by rw [HW1.out]; exact ⟨_, World.drewN_drewN _ _ _⟩⟩


end Go.Proofs.Ytbjgigdkbjabaaa
