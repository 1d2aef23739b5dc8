/- The law FnFeeding returns true for every argument, and every argument reads afterwards as before. No conditions. -/
import Derived.Test.YteabheocbkcmnaaMoves
import Derived.Test.YteabheocbkcmnaaDraw1
import Derived.Deep.CutRange
import Derived.Deep.CutBlock
namespace Go.Proofs.Yteabheocbkcmnaa.lFeeding
set_option linter.unusedSimpArgs false
set_option linter.unusedVariables false
set_option linter.unnecessarySimpa false
open Go.RowKit Go.ChangeShapes Go.WideShapes Go.ChangeAt Go.Joins
open Go.ChangeMaps (open_string)

theorem row_up {w : World} {b g : Nat} {e : TypeId} {size n c : Nat} {vs : List Value} (h : w.ownsRow b e size (.slice (some ⟨g, 0, none⟩) n c) n vs) : w.ownsRow g e size (.slice (some ⟨g, 0, none⟩) n c) n vs := by
  obtain ⟨h1, ⟨h2, _⟩ | ⟨g', cap, cur, hv, hb, r⟩⟩ := h
  · cases h2
  · cases hv
    exact ⟨h1, .inr ⟨g, c, cur, rfl, Nat.le_refl _, r⟩⟩
/-- while the pits are emptied: the pits' row in block pg, boxes at b and b + 1 -/
structure FdSt (w wr : World) (r : R) (p : P) (A : A2) (pg b u k : Nat) : Prop where
  pits : wr.ownsRow pg 2 1 (.slice (some ⟨pg, 0, none⟩) p.pits.length A.pc) p.pits.length ((zeroTo p.pits u k).map (Value.int .i64))
  sto : Ints wr A.sa p.stores
  sn : ∀ g o t, A.sa = some ⟨g, o, t⟩ → ¬ g = pg
  rx : BoxP b r.cells.toList wr
  px : BoxP (b + 1) (p.cells A.pa A.pc A.sa A.sc).toList wr
  below : Below w.heap.size w wr
  lo : w.heap.size ≤ pg ∧ pg < b
theorem FdSt.step {w wr : World} {r : R} {p : P} {A : A2} {pg b u k : Nat} (h : FdSt w wr r p A pg b u k) : FdSt w (wr.setCell ⟨pg, u + k, none⟩ (.int .i64 0)) r p A pg b u (k + 1) := by
  have hb : ∀ g cs, ¬ g = pg → BoxP g cs wr → BoxP g cs (wr.setCell ⟨pg, u + k, none⟩ (.int .i64 0)) := fun g cs hn hx => hx.set hn _ _
  refine ⟨?_, ?_, h.sn, hb _ _ (by have := h.lo; omega) h.rx, hb _ _ (by have := h.lo; omega) h.px, h.below.setCell h.lo.1 _, h.lo⟩
  · have h1 := (h.pits.stored (u + k) (.int .i64 0)).1
    rw [zeroTo, List.map_set]
    exact h1
  · intro j v hv
    obtain ⟨g, o, ha, hc⟩ := h.sto j v hv
    exact ⟨g, o, ha, (World.cell?_setCell_other _ _ _ _ (by intro e; injection e with e1; exact h.sn _ _ _ ha e1.symm)).trans hc⟩
/-- how many moves have been looked at -/
def FdR (w5 : World) (N : Nat) (i : Value) (wr : World) : Prop := ∃ k : Nat, k ≤ N ∧ i = .int .i64 k ∧ Below w5.heap.size w5 wr
def fnd (l : List (Mk × MA)) (M G : Int) (k : Nat) : Bool := (l.take k).any (fun x => x.1.move == M && x.1.gain == G)
theorem fnd_succ {l : List (Mk × MA)} {M G : Int} {k : Nat} {x : Mk × MA} (h : l[k]? = some x) : fnd l M G (k + 1) = (fnd l M G k || (x.1.move == M && x.1.gain == G)) := by
  unfold fnd
  rw [List.take_add_one, h, List.any_append]
  simp
def FdF (l : List (Mk × MA)) (M G : Int) (f i : Value) : Prop := ∃ k : Nat, k ≤ l.length ∧ i = .int .i64 k ∧ f = .bool (fnd l M G k)
set_option maxRecDepth 100000 in
set_option maxHeartbeats 16000000 in
theorem walk (ca : Option Addr) (cc : Nat) (bs : List Int) (w : World) (hm1 : bs.length ≤ maxLen) (hb : bs.length ≤ 3000 → ByteP w.heap.size ca bs w) :
    Calls Try.prog 14 #[.slice ca bs.length cc] w fun e w' => e = .returned (.bool true) ∧ Below w.heap.size w w' := by
  by_cases hl : 3000 < (bs.length : Int)
  · have HL : (decide (3000 < (bs.length : Int)) || decide (3000 < ((0 : Nat) : Int))) = true := by simpa using hl
    clear hb hl
    go_enter Try.func14, Try.ntmps14
    go_wp2_with fail
    refine (a2Long_c ca none _ 0 cc 0 _ hm1 (by simp)).mono ?_
    rintro e w1 ⟨rfl, rfl⟩
    rw [HL]
    go_wp2
    go_ret
    exact ⟨rfl, Below.refl _ _⟩
  have HB := Lib.hid (hb (by omega))
  have HL : (decide (3000 < (bs.length : Int)) || decide (3000 < ((0 : Nat) : Int))) = false := by simp; omega
  clear hb hl
  go_enter Try.func14, Try.ntmps14
  go_wp2_with fail
  refine (a2Long_c ca none _ 0 cc 0 _ hm1 (by simp)).mono ?_
  rintro e w1 ⟨rfl, rfl⟩
  rw [HL]
  clear hm1 HL
  go_wp2_with fail
  refine (A2Position_c ca cc bs _ HB.out).mono ?_
  rintro e w2 ⟨r, p, A, rfl, hdr, hdp, ho2, hb2⟩
  have hok := hdp.ok hdr
  obtain ⟨hlo, hhi⟩ := R.ok_bd hdr.1
  obtain ⟨lp, ls⟩ := P.ok_lens hok
  obtain ⟨hc, hcm⟩ := own_caps ho2.pits
  obtain ⟨⟨_, _⟩, ⟨pn, hpn, hpn1⟩, t, hBr, _⟩ := P.ok_parts hok
  obtain ⟨pg, hpa, hpg1, hpg2⟩ := own_lt_n ho2.pits (by have := hBr.lp; omega)
  obtain ⟨b, hbb⟩ : ∃ b : Nat, (1 - p.player) * r.pits = b := ⟨((1 - p.player) * r.pits).toNat, by
    have : 0 ≤ (1 - p.player) * r.pits := Int.mul_nonneg (by omega) (by omega)
    omega⟩
  obtain ⟨K, hK⟩ : ∃ K : Nat, r.pits = K := ⟨r.pits.toNat, by omega⟩
  have hbK : b + K ≤ p.pits.length := by
    have h1 := hBr.lp
    rcases (show p.player = 0 ∨ p.player = 1 by omega) with h | h
    · rw [h] at hbb; omega
    · rw [h] at hbb; omega
  have F2 := ((Fr.start w2).alloc r.cells 24).alloc (p.cells A.pa A.pc A.sa A.sc) 27
  have hx2 := F2.at 0 rfl
  simp only [World.size_alloc] at hx2
  have HST : Hid (FdSt w ((w2.alloc (.cells r.cells 24)).alloc (.cells (p.cells A.pa A.pc A.sa A.sc) 27)) r p A pg w2.heap.size b 0) := by
    refine ⟨?_, ho2.row.stores.below F2.below (Nat.le_refl _), ?_, F2.at 1 rfl, hx2, below_next hb2 F2.below, ⟨hpg1, hpg2⟩⟩
    · have h1 := ho2.pits
      rw [hpa] at h1
      exact row_up (own_below h1 F2.below (Nat.le_refl _))
    · intro g o t hg e
      subst e
      rcases ho2.apart with h | h
      · rw [hpa] at h; cases h
      · exact h (by rw [hpa, hg]; rfl)
  have HPL := Lib.hid (⟨hpn, hpn1⟩ : _ ∧ _)
  have HPA := Lib.hid hpa
  have HOK := Lib.hid hok
  have HKK := Lib.hid hK
  have HBB := Lib.hid hbb
  have hK8 : K ≤ 8 := by omega
  have hp0 : 0 ≤ p.player := by omega
  have hp1 : p.player ≤ 1 := by omega
  clear hdr hdp ho2 hb2 hok hBr hpn hpa hx2 F2 HB hK
  go_wp2_with fail
  go_loopw [5] (fun i wr => ∃ k : Nat, i = .int .i64 k ∧ k ≤ K ∧ FdSt w wr r p A pg w2.heap.size b k) (fun i _ => K - (intOf i).toNat)
  case atStart => exact ⟨0, rfl, Nat.zero_le _, HST.out⟩
  case round =>
    clear HST
    obtain ⟨k, rfl, hkK, hst⟩ := hrel
    have HS := Lib.hid hst
    obtain ⟨c0, c1, c2, c3, c4, c5, c6, c7, c8⟩ := R.boxc hst.rx
    obtain ⟨d0, d1, d2⟩ := P.boxc hst.px
    have zb : w2.heap.size + 1 < wr.heap.size := World.block_lt_of_cell? _ _ d0
    by_cases hk : k < K
    · have hkI : (k : Int) < r.pits := by have := HKK.out; omega
      rw [HPA.out] at d0
      have hcell := hst.pits.cellAt (b + k) (by show b + k < p.pits.length * 1; omega)
      obtain ⟨v0, hv0⟩ : ∃ v, ((zeroTo p.pits b k).map (Value.int .i64))[b + k]? = some v := ⟨_, List.getElem?_eq_getElem (by simp [zeroTo_length]; omega)⟩
      rw [hv0] at hcell
      have hfz := hst.pits.frozenAt (b + k)
      have hb0 : (0 : Int) ≤ (b : Int) := by omega
      have hb16 : (b : Int) ≤ 16 := by omega
      have hix : (b : Int) + (k : Int) < (p.pits.length : Int) := by omega
      have hixN : ((b : Int) + (k : Int)).toNat = b + k := by omega
      have hst2 := Lib.hid hst.step
      clear hst hv0
      go_wp2
      go_roundw
      case rel => exact ⟨k + 1, by go_num, by omega, hst2.out⟩
      case measure => (simp [intOf]; omega)
    · obtain rfl : k = K := by omega
      have hkI : ¬ (k : Int) < r.pits := by have := HKK.out; omega
      obtain ⟨q, hq⟩ : ∃ q : P, q = ⟨zeroTo p.pits b k, p.stores, p.player⟩ := ⟨_, rfl⟩
      have hkr : r.pits.toNat = k := by have := HKK.out; omega
      have hqok : q.ok r = true := by rw [hq]; exact zero_ok HOK.out b k
      have hqs : sideP r q.pits (1 - q.player) = 0 := by
        rw [hq, ← hkr]
        exact side_zero r p.pits (1 - p.player) (by rw [HBB.out]; simp)
      have hqf : feedP r q = r.feed := by unfold feedP; rw [decide_eq_true hqs, Bool.and_true]
      have HPR : Hid (PRow wr q A.pa A.sa) := by
        have h1 := own_row hst.pits
        rw [hq, HPA.out]
        exact ⟨h1, hst.sto⟩
      have HQX : Hid (BoxP (w2.heap.size + 1) (q.cells A.pa A.pc A.sa A.sc).toList wr) := by
        have h1 : p.cells A.pa A.pc A.sa A.sc = q.cells A.pa A.pc A.sa A.sc := by rw [hq]; simp [P.cells, zeroTo_length]
        have h2 := hst.px
        rw [h1] at h2
        exact h2
      have HRX := Lib.hid hst.rx
      have HBW := Lib.hid hst.below
      have hql : q.pits.length ≤ 16 ∧ q.stores.length ≤ 16 := P.ok_lens hqok
      obtain ⟨hq1, hq2⟩ := hql
      have hq3 : q.pits.length ≤ A.pc := by rw [hq]; simp [zeroTo_length]; exact hc
      have HQ := Lib.hid (⟨hqok, hqf, hqs⟩ : _ ∧ _ ∧ _)
      obtain ⟨_, ⟨qn, hqn, hqn1⟩, _⟩ := P.ok_parts hqok
      have hqp0 : 0 ≤ q.player := by omega
      have hqp1 : q.player ≤ 1 := by omega
      have HSA : Hid (∀ W, Below wr.heap.size wr W → (W.cell? ⟨w2.heap.size, 0, none⟩ = some (.int .i64 r.pits) ∧ W.cell? ⟨w2.heap.size, 1, none⟩ = some (.int .i64 r.seeds) ∧ W.cell? ⟨w2.heap.size, 2, none⟩ = some (.bool r.stores) ∧ W.cell? ⟨w2.heap.size, 3, none⟩ = some (.bool r.skip) ∧ W.cell? ⟨w2.heap.size, 4, none⟩ = some (.bool r.relay) ∧ W.cell? ⟨w2.heap.size, 5, none⟩ = some (.bool r.feed) ∧ W.cell? ⟨w2.heap.size, 6, none⟩ = some (.bool r.again) ∧ W.cell? ⟨w2.heap.size, 7, none⟩ = some (.int .i64 r.capture) ∧ W.cell? ⟨w2.heap.size, 8, none⟩ = some (.int .i64 r.slam) ∧ W.cell? ⟨w2.heap.size + 1, 0, none⟩ = some (.slice A.pa q.pits.length A.pc) ∧ W.cell? ⟨w2.heap.size + 1, 1, none⟩ = some (.slice A.sa q.stores.length A.sc) ∧ W.cell? ⟨w2.heap.size + 1, 2, none⟩ = some (.int .i64 q.player))) := fun W hW => by
        have k5 := (bcell hW).1
        exact ⟨(k5 _ _ (by omega)).trans (HRX.out 0 _ rfl), (k5 _ _ (by omega)).trans (HRX.out 1 _ rfl), (k5 _ _ (by omega)).trans (HRX.out 2 _ rfl), (k5 _ _ (by omega)).trans (HRX.out 3 _ rfl), (k5 _ _ (by omega)).trans (HRX.out 4 _ rfl), (k5 _ _ (by omega)).trans (HRX.out 5 _ rfl), (k5 _ _ (by omega)).trans (HRX.out 6 _ rfl), (k5 _ _ (by omega)).trans (HRX.out 7 _ rfl), (k5 _ _ (by omega)).trans (HRX.out 8 _ rfl), (k5 _ _ (by omega)).trans (HQX.out 0 _ rfl), (k5 _ _ (by omega)).trans (HQX.out 1 _ rfl), (k5 _ _ (by omega)).trans (HQX.out 2 _ rfl)⟩
      have HMF : Hid (∀ W, Below wr.heap.size wr W → Calls Try.prog 69 #[r.val, q.val A.pa A.pc A.sa A.sc] W fun e w' => e = .returned (.bool r.feed) ∧ Below W.heap.size W w') := fun W hW => by
        have h1 := MustFeed_c r q HQ.out.1 A.pa A.sa A.pc A.sc W (HPR.out.below hW (Nat.le_refl _)) (by omega) (by omega) hq3 hcm
        rw [HQ.out.2.1] at h1
        exact h1
      clear hst HS hq hqok hqs hqf hqn hkr d0 d1 d2 hbb hbK hpg1 hpg2 HPL HPA HOK HBB hp0 hp1 lp ls hc
      go_upto_region 8 with fail
      clear c0 c1 c2 c3 c4 c5 c6 c7 c8
      refine heldH (S := fun W => W.cell? ⟨w2.heap.size, 0, none⟩ = some (.int .i64 r.pits) ∧ W.cell? ⟨w2.heap.size, 1, none⟩ = some (.int .i64 r.seeds) ∧ W.cell? ⟨w2.heap.size, 2, none⟩ = some (.bool r.stores) ∧ W.cell? ⟨w2.heap.size, 3, none⟩ = some (.bool r.skip) ∧ W.cell? ⟨w2.heap.size, 4, none⟩ = some (.bool r.relay) ∧ W.cell? ⟨w2.heap.size, 5, none⟩ = some (.bool r.feed) ∧ W.cell? ⟨w2.heap.size, 6, none⟩ = some (.bool r.again) ∧ W.cell? ⟨w2.heap.size, 7, none⟩ = some (.int .i64 r.capture) ∧ W.cell? ⟨w2.heap.size, 8, none⟩ = some (.int .i64 r.slam) ∧ W.cell? ⟨w2.heap.size + 1, 0, none⟩ = some (.slice A.pa q.pits.length A.pc) ∧ W.cell? ⟨w2.heap.size + 1, 1, none⟩ = some (.slice A.sa q.stores.length A.sc) ∧ W.cell? ⟨w2.heap.size + 1, 2, none⟩ = some (.int .i64 q.player)) (n := 6) (listed := #[false, false, false, false, false, false]) (by kernel_rfl) (by rfl) (by rfl) ?_ (fun hHeld => ?_)
      (focus ((try dsimp only); (first | done | (((refine HSA.out _ ?_; first | (with_reducible exact HB4.out) | exact (Below.refl _ _).drew)); done))))
      (refine takeH (i := 0) (v := ?_) (by decide +kernel) (by decide +kernel) (by kernel_rfl) (by rfl) (by exact fun _ _ _ h => h) (by rfl) ?_ (by assumption) ?_); rotate_left; (focus (intro w hSw; (try dsimp only at hSw); go_simp; (try with_reducible rfl); done)); (try simp only [Act.put, List.setIfInBounds_toArray, List.set_cons_zero, List.set_cons_succ])
      (refine takeH (i := 1) (v := ?_) (by decide +kernel) (by decide +kernel) (by kernel_rfl) (by rfl) (by exact fun _ _ _ h => h) (by rfl) ?_ (by assumption) ?_); rotate_left; (focus (intro w hSw; (try dsimp only at hSw); go_simp; (try with_reducible rfl); done)); (try simp only [Act.put, List.setIfInBounds_toArray, List.set_cons_zero, List.set_cons_succ])
      (refine takeH (i := 3) (v := ?_) (by decide +kernel) (by decide +kernel) (by kernel_rfl) (by rfl) (by exact fun _ _ _ h => h) (by rfl) ?_ (by assumption) ?_); rotate_left; (focus (intro w hSw; (try dsimp only at hSw); go_simp; (try with_reducible rfl); done)); (try simp only [Act.put, List.setIfInBounds_toArray, List.set_cons_zero, List.set_cons_succ])
      (refine takeH (i := 4) (v := ?_) (by decide +kernel) (by decide +kernel) (by kernel_rfl) (by rfl) (by exact fun _ _ _ h => h) (by rfl) ?_ (by assumption) ?_); rotate_left; (focus (intro w hSw; (try dsimp only at hSw); go_simp; (try with_reducible rfl); done)); (try simp only [Act.put, List.setIfInBounds_toArray, List.set_cons_zero, List.set_cons_succ])
      refine nextH (i := 2) (by decide +kernel) (by rfl) (by rfl) (fun K hK => ?_)
      (go_simp; go_at_call 69; (refine (HMF.out _ (Below.refl _ _).drew).mono ?_); (rintro e w4 ⟨rfl, hb4⟩); (have HB4 : Hid (Below wr.heap.size wr w4) := below_next (Below.refl _ _).drew hb4))
      refine hK.out _ _ ?_ (fun hHeld' => ?_)
      (focus ((try dsimp only); (first | done | (((refine HSA.out _ ?_; first | (with_reducible exact HB4.out) | exact (Below.refl _ _).drew)); done))))
      clear hK K hHeld
      have hHeld := hHeld'
      clear hHeld'
      (try simp only [Act.put, List.setIfInBounds_toArray, List.set_cons_zero, List.set_cons_succ])
      (refine takeH (i := 5) (v := ?_) (by decide +kernel) (by decide +kernel) (by kernel_rfl) (by rfl) (by exact fun _ _ _ h => h) (by rfl) ?_ (by assumption) ?_); rotate_left; (focus (intro w hSw; (try dsimp only at hSw); go_simp; (try with_reducible rfl); done)); (try simp only [Act.put, List.setIfInBounds_toArray, List.set_cons_zero, List.set_cons_succ])
      refine wpAnyH_done (by decide +kernel) ?_ _
      obtain ⟨c0, c1, c2, c3, c4, c5, c6, c7, c8, d0, d1, d2⟩ := HSA.out _ HB4.out
      have z4 : w2.heap.size + 1 < w4.heap.size := Nat.lt_of_lt_of_le zb HB4.out.size
      clear hHeld hb4 HMF
      go_wp2_with fail
      refine (iResultsOf_c r q HQ.out.1 A.pa A.sa A.pc A.sc _ (HPR.out.below HB4.out (Nat.le_refl _)) (by omega) (by omega) hq3 hcm).mono ?_
      rintro e w5 ⟨l, ad, c, hl, rfl, ho5, hb5⟩
      have HB5 : Hid (Below wr.heap.size wr w5) := below_next HB4.out hb5
      obtain ⟨N, hN⟩ : ∃ N, N = l.length := ⟨_, rfl⟩
      rw [← hN]
      have hN8 : N ≤ 8 := by have := allP_len8 HQ.out.1; rw [hN]; have h2 := congrArg List.length hl; simp at h2; omega
      obtain ⟨g, hbx, hg1, hg2⟩ := mks_box ho5 hb5.size
      have HBX := Lib.hid hbx
      have HLL := Lib.hid hl
      have HNN := Lib.hid hN
      have HG2 := Lib.hid hg2
      have HO5 := Lib.hid ho5
      have z5 : w2.heap.size + 1 < w5.heap.size := Nat.lt_of_lt_of_le zb HB5.out.size
      clear hb5 hl hN hg2 ho5 hg1 hbx c0 c1 c2 c3 c4 c5 c6 c7 c8 d0 d1 d2 HB4 z4
      go_upto_block 2 with fail
      go_cut [] from 8 to 84 (fun wx => Below w5.heap.size w5 wx)
      case first =>
        go_wp2_with fail
        go_loopw [8] (fun i wx => FdR w5 N i wx) (fun i _ => N - (intOf i).toNat)
        case atStart => exact ⟨0, Nat.zero_le _, rfl, Below.refl _ _⟩
        case round =>
          obtain ⟨i, hiN, rfl, hbr⟩ := hrel
          have BR := Lib.hid hbr
          obtain ⟨c0, c1, c2, c3, c4, c5, c6, c7, c8, d0, d1, d2⟩ := HSA.out _ (below_next HB5.out hbr)
          have zr : w2.heap.size + 1 < wr.heap.size := Nat.lt_of_lt_of_le z5 hbr.size
          clear hbr
          cases hf : r.feed
          · go_wp2
            go_meet
            case rel => exact BR.out
          by_cases hi : i < N
          case neg =>
            have hnl : ¬ (i : Int) < (N : Int) := by omega
            go_wp2
            go_meet
            case rel => exact BR.out
          obtain ⟨⟨z, xm⟩, hy⟩ : ∃ y, l[i]? = some y := ⟨_, List.getElem?_eq_getElem (by have := HNN.out; omega)⟩
          obtain ⟨_, _, _, y3, y4, y5⟩ := box_cells (BoxP.below HBX.out BR.out) hy
          dsimp only at y3 y4 y5
          have hzin : z ∈ allP r q := by rw [← HLL.out]; exact List.mem_map_of_mem (f := Prod.fst) (List.mem_of_getElem? hy)
          obtain ⟨m, hm, hmc, _⟩ := allP_of hzin
          have hzok : (⟨z.pits, z.stores, z.player⟩ : P).ok r = true := allP_valid hzin
          have hsd0 : ¬ sideP r z.pits (1 - q.player) = 0 := by
            have h1 := feed_next (r := r) (p := q) (m := (m : Int)) hmc hf HQ.out.2.2
            rw [← hm] at h1
            exact h1
          have hga : ad = some ⟨g, 0, none⟩ := HG2.out (by rw [← HNN.out]; omega)
          have hzl := P.ok_lens hzok
          dsimp only at hzl
          obtain ⟨hz1, hz2⟩ := hzl
          have HIT := Lib.hid ((HO5.out.items _ (List.mem_of_getElem? hy)).1.row)
          obtain ⟨pl', hpl'⟩ : ∃ pl' : Nat, (pl' : Int) = 1 - q.player := ⟨(1 - q.player).toNat, by omega⟩
          obtain ⟨sd, hsd⟩ : ∃ sd, sd = sideP r z.pits (1 - q.player) := ⟨_, rfl⟩
          have HSS : Hid (∀ W, Below w5.heap.size w5 W → Calls Try.prog 70 #[r.val, P.val ⟨z.pits, z.stores, z.player⟩ xm.pa xm.pc xm.sa xm.sc, .int .i64 (1 - q.player)] W fun e w' => e = .returned (.tuple #[.int .i64 sd, .int .i64 0]) ∧ Below W.heap.size W w') := fun W hW => by
            rw [hsd, ← hpl']
            exact sSideSeeds_c r ⟨z.pits, z.stores, z.player⟩ hzok pl' (by omega) xm.pa xm.sa xm.pc xm.sc W (HIT.out.below hW (Nat.le_refl _)) (by dsimp only; omega) (by dsimp only; omega)
          have hsd1 : (sd == 0) = false := by rw [hsd]; exact beq_eq_false_iff_ne.2 hsd0
          have hwr : IntKind.i64.wrap (1 - q.player) = 1 - q.player := IntWalk.i64_in _ (by omega)
          have hgl : g < wr.heap.size := World.block_lt_of_cell? _ _ y3
          have hiI : (i : Int) < (N : Int) := by omega
          have h0i : (0 : Int) ≤ (i : Int) := by omega
          have HS6 : Hid (∀ W, Below wr.heap.size wr W → (W.cell? ⟨w2.heap.size, 0, none⟩ = some (.int .i64 r.pits) ∧ W.cell? ⟨w2.heap.size, 1, none⟩ = some (.int .i64 r.seeds) ∧ W.cell? ⟨w2.heap.size, 2, none⟩ = some (.bool r.stores) ∧ W.cell? ⟨w2.heap.size, 3, none⟩ = some (.bool r.skip) ∧ W.cell? ⟨w2.heap.size, 4, none⟩ = some (.bool r.relay) ∧ W.cell? ⟨w2.heap.size, 5, none⟩ = some (.bool r.feed) ∧ W.cell? ⟨w2.heap.size, 6, none⟩ = some (.bool r.again) ∧ W.cell? ⟨w2.heap.size, 7, none⟩ = some (.int .i64 r.capture) ∧ W.cell? ⟨w2.heap.size, 8, none⟩ = some (.int .i64 r.slam) ∧ W.cell? ⟨w2.heap.size + 1, 0, none⟩ = some (.slice A.pa q.pits.length A.pc) ∧ W.cell? ⟨w2.heap.size + 1, 1, none⟩ = some (.slice A.sa q.stores.length A.sc) ∧ W.cell? ⟨w2.heap.size + 1, 2, none⟩ = some (.int .i64 q.player) ∧ W.cell? ⟨g, i * 6 + 3, none⟩ = some (.slice xm.pa z.pits.length xm.pc) ∧ W.cell? ⟨g, i * 6 + 4, none⟩ = some (.slice xm.sa z.stores.length xm.sc) ∧ W.cell? ⟨g, i * 6 + 5, none⟩ = some (.int .i64 z.player))) := fun W hW => by
            have k7 := (bcell hW).1
            obtain ⟨a0, a1, a2, a3, a4, a5, a6, a7, a8, b0, b1, b2⟩ := HSA.out _ (below_next HB5.out (below_next BR.out hW))
            exact ⟨a0, a1, a2, a3, a4, a5, a6, a7, a8, b0, b1, b2, (k7 _ _ hgl).trans y3, (k7 _ _ hgl).trans y4, (k7 _ _ hgl).trans y5⟩
          subst hga
          clear hy hm hmc hzok hzin hpl' hsd y3 y4 y5 hsd0
          go_upto_region 14 with fail
          clear hf c0 c1 c2 c3 c4 c5 c6 c7 c8 d0 d1 d2
          refine heldH (S := fun W => W.cell? ⟨w2.heap.size, 0, none⟩ = some (.int .i64 r.pits) ∧ W.cell? ⟨w2.heap.size, 1, none⟩ = some (.int .i64 r.seeds) ∧ W.cell? ⟨w2.heap.size, 2, none⟩ = some (.bool r.stores) ∧ W.cell? ⟨w2.heap.size, 3, none⟩ = some (.bool r.skip) ∧ W.cell? ⟨w2.heap.size, 4, none⟩ = some (.bool r.relay) ∧ W.cell? ⟨w2.heap.size, 5, none⟩ = some (.bool r.feed) ∧ W.cell? ⟨w2.heap.size, 6, none⟩ = some (.bool r.again) ∧ W.cell? ⟨w2.heap.size, 7, none⟩ = some (.int .i64 r.capture) ∧ W.cell? ⟨w2.heap.size, 8, none⟩ = some (.int .i64 r.slam) ∧ W.cell? ⟨w2.heap.size + 1, 0, none⟩ = some (.slice A.pa q.pits.length A.pc) ∧ W.cell? ⟨w2.heap.size + 1, 1, none⟩ = some (.slice A.sa q.stores.length A.sc) ∧ W.cell? ⟨w2.heap.size + 1, 2, none⟩ = some (.int .i64 q.player) ∧ W.cell? ⟨g, i * 6 + 3, none⟩ = some (.slice xm.pa z.pits.length xm.pc) ∧ W.cell? ⟨g, i * 6 + 4, none⟩ = some (.slice xm.sa z.stores.length xm.sc) ∧ W.cell? ⟨g, i * 6 + 5, none⟩ = some (.int .i64 z.player)) (n := 15) (listed := #[false, false, false, false, false, false, false, false, false, false, false, false, false, false, false]) (by kernel_rfl) (by rfl) (by rfl) ?_ (fun hHeld => ?_)
          (focus ((try dsimp only); (first | done | (((refine HS6.out _ ?_; first | (with_reducible exact HB8.out) | exact (Below.refl _ _).drew)); done))))
          (refine takeH (i := 0) (v := ?_) (by decide +kernel) (by decide +kernel) (by kernel_rfl) (by rfl) (by exact fun _ _ _ h => h) (by rfl) ?_ (by assumption) ?_); rotate_left; (focus (intro w hSw; (try dsimp only at hSw); go_simp; (try with_reducible rfl); done)); (try simp only [Act.put, List.setIfInBounds_toArray, List.set_cons_zero, List.set_cons_succ])
          (refine takeH (i := 1) (v := ?_) (by decide +kernel) (by decide +kernel) (by kernel_rfl) (by rfl) (by exact fun _ _ _ h => h) (by rfl) ?_ (by assumption) ?_); rotate_left; (focus (intro w hSw; (try dsimp only at hSw); go_simp; (try with_reducible rfl); done)); (try simp only [Act.put, List.setIfInBounds_toArray, List.set_cons_zero, List.set_cons_succ])
          (refine takeH (i := 2) (v := ?_) (by decide +kernel) (by decide +kernel) (by kernel_rfl) (by rfl) (by exact fun _ _ _ h => h) (by rfl) ?_ (by assumption) ?_); rotate_left; (focus (intro w hSw; (try dsimp only at hSw); go_simp; (try with_reducible rfl); done)); (try simp only [Act.put, List.setIfInBounds_toArray, List.set_cons_zero, List.set_cons_succ])
          (refine takeH (i := 3) (v := ?_) (by decide +kernel) (by decide +kernel) (by kernel_rfl) (by rfl) (by exact fun _ _ _ h => h) (by rfl) ?_ (by assumption) ?_); rotate_left; (focus (intro w hSw; (try dsimp only at hSw); go_simp; (try with_reducible rfl); done)); (try simp only [Act.put, List.setIfInBounds_toArray, List.set_cons_zero, List.set_cons_succ])
          (refine takeH (i := 4) (v := ?_) (by decide +kernel) (by decide +kernel) (by kernel_rfl) (by rfl) (by exact fun _ _ _ h => h) (by rfl) ?_ (by assumption) ?_); rotate_left; (focus (intro w hSw; (try dsimp only at hSw); go_simp; (try with_reducible rfl); done)); (try simp only [Act.put, List.setIfInBounds_toArray, List.set_cons_zero, List.set_cons_succ])
          (refine takeH (i := 5) (v := ?_) (by decide +kernel) (by decide +kernel) (by kernel_rfl) (by rfl) (by exact fun _ _ _ h => h) (by rfl) ?_ (by assumption) ?_); rotate_left; (focus (intro w hSw; (try dsimp only at hSw); go_simp; (try with_reducible rfl); done)); (try simp only [Act.put, List.setIfInBounds_toArray, List.set_cons_zero, List.set_cons_succ])
          (refine takeH (i := 6) (v := ?_) (by decide +kernel) (by decide +kernel) (by kernel_rfl) (by rfl) (by exact fun _ _ _ h => h) (by rfl) ?_ (by assumption) ?_); rotate_left; (focus (intro w hSw; (try dsimp only at hSw); go_simp; (try with_reducible rfl); done)); (try simp only [Act.put, List.setIfInBounds_toArray, List.set_cons_zero, List.set_cons_succ])
          (refine takeH (i := 7) (v := ?_) (by decide +kernel) (by decide +kernel) (by kernel_rfl) (by rfl) (by exact fun _ _ _ h => h) (by rfl) ?_ (by assumption) ?_); rotate_left; (focus (intro w hSw; (try dsimp only at hSw); go_simp; (try with_reducible rfl); done)); (try simp only [Act.put, List.setIfInBounds_toArray, List.set_cons_zero, List.set_cons_succ])
          (refine takeH (i := 8) (v := ?_) (by decide +kernel) (by decide +kernel) (by kernel_rfl) (by rfl) (by exact fun _ _ _ h => h) (by rfl) ?_ (by assumption) ?_); rotate_left; (focus (intro w hSw; (try dsimp only at hSw); go_simp; (try with_reducible rfl); done)); (try simp only [Act.put, List.setIfInBounds_toArray, List.set_cons_zero, List.set_cons_succ])
          refine nextH (i := 9) (by decide +kernel) (by rfl) (by rfl) (fun K hK => ?_)
          (go_simp; go_at_call 70; (refine (HSS.out _ (BR.out.drew)).mono ?_); (rintro e w8 ⟨rfl, hb8⟩); (have HB8 : Hid (Below wr.heap.size wr w8) := below_next (Below.refl _ _).drew hb8))
          refine hK.out _ _ ?_ (fun hHeld' => ?_)
          (focus ((try dsimp only); (first | done | (((refine HS6.out _ ?_; first | (with_reducible exact HB8.out) | exact (Below.refl _ _).drew)); done))))
          clear hK K hHeld
          have hHeld := hHeld'
          clear hHeld'
          (try simp only [Act.put, List.setIfInBounds_toArray, List.set_cons_zero, List.set_cons_succ])
          (refine takeH (i := 10) (v := ?_) (by decide +kernel) (by decide +kernel) (by kernel_rfl) (by rfl) (by exact fun _ _ _ h => h) (by rfl) ?_ (by assumption) ?_); rotate_left; (focus (intro w hSw; (try dsimp only at hSw); go_simp; (try with_reducible rfl); done)); (try simp only [Act.put, List.setIfInBounds_toArray, List.set_cons_zero, List.set_cons_succ])
          (refine takeH (i := 11) (v := ?_) (by decide +kernel) (by decide +kernel) (by kernel_rfl) (by rfl) (by exact fun _ _ _ h => h) (by rfl) ?_ (by assumption) ?_); rotate_left; (focus (intro w hSw; (try dsimp only at hSw); go_simp; (try with_reducible rfl); done)); (try simp only [Act.put, List.setIfInBounds_toArray, List.set_cons_zero, List.set_cons_succ])
          (refine takeH (i := 12) (v := ?_) (by decide +kernel) (by decide +kernel) (by kernel_rfl) (by rfl) (by exact fun _ _ _ h => h) (by rfl) ?_ (by assumption) ?_); rotate_left; (focus (intro w hSw; (try dsimp only at hSw); go_simp; (try with_reducible rfl); done)); (try simp only [Act.put, List.setIfInBounds_toArray, List.set_cons_zero, List.set_cons_succ])
          (refine takeH (i := 13) (v := ?_) (by decide +kernel) (by decide +kernel) (by kernel_rfl) (by rfl) (by exact fun _ _ _ h => h) (by rfl) ?_ (by assumption) ?_); rotate_left; (focus (intro w hSw; (try dsimp only at hSw); go_simp; (try with_reducible rfl); done)); (try simp only [Act.put, List.setIfInBounds_toArray, List.set_cons_zero, List.set_cons_succ])
          (refine takeH (i := 14) (v := ?_) (by decide +kernel) (by decide +kernel) (by kernel_rfl) (by rfl) (by exact fun _ _ _ h => h) (by rfl) ?_ (by assumption) ?_); rotate_left; (focus (intro w hSw; (try dsimp only at hSw); go_simp; (try with_reducible rfl); done)); (try simp only [Act.put, List.setIfInBounds_toArray, List.set_cons_zero, List.set_cons_succ])
          refine wpAnyH_done (by decide +kernel) ?_ _
          have HR : Hid (FdR w5 N (.int .i64 ((i : Int) + 1)) w8) := ⟨i + 1, by omega, by go_num, below_next BR.out HB8.out⟩
          clear hHeld hb8
          go_wp2
          go_roundw
          case rel => first | exact HR.out | ((repeat apply Exists.intro); exact ⟨HR.out, rfl⟩) | ((repeat apply Exists.intro); refine ⟨HR.out, ?_⟩; (repeat' apply And.intro) <;> rfl)
          case measure => (simp [intOf]; omega)
      case rest =>
      have BC := Lib.hid hcut
      have HB6 := Lib.hid (below_next HB5.out hcut)
      obtain ⟨c0, c1, c2, c3, c4, c5, c6, c7, c8, d0, d1, d2⟩ := HSA.out _ HB6.out
      have z6 : w2.heap.size + 1 < wc.heap.size := Nat.lt_of_lt_of_le z5 BC.out.size
      have HBX6 := Lib.hid (BoxP.below HBX.out BC.out)
      obtain ⟨gr, hgr⟩ : ∃ gr, gr = greedyP r q := ⟨_, rfl⟩
      have HG := Lib.hid (iGreedyMove_c r q A.pa A.sa A.pc A.sc wc (HPR.out.below HB6.out (Nat.le_refl _)) (by omega) (by omega) hq3 hcm)
      rw [← hgr] at HG
      have HGR := Lib.hid hgr
      clear hcut hgr
      go_wp2_with fail
      refine HG.out.mono ?_
      rintro e w7 ⟨rfl, hb7⟩
      have B7 := Lib.hid (below_next HBW.out (below_next HB6.out hb7))
      have HBX7 := Lib.hid (BoxP.below HBX6.out hb7)
      clear hb7 HG c0 c1 c2 c3 c4 c5 c6 c7 c8 d0 d1 d2 HBX6 HSA HPR
      by_cases hN0 : N = 0
      · subst hN0
        have hnil : allP r q = [] := by
          rw [← HLL.out, List.eq_nil_of_length_eq_zero (HNN.out.symm)]; rfl
        have hg3 : gr.2.2 = 3 := by rw [HGR.out, greedyP, if_pos HQ.out.1, if_pos hnil]
        go_wp2
        go_ret
        exact ⟨rfl, B7.out⟩
      have hnn : ¬ allP r q = [] := fun e => by
        have h1 := congrArg List.length HLL.out
        rw [e] at h1
        simp at h1
        have := HNN.out
        rw [h1] at this
        exact hN0 (by simpa using this)
      obtain ⟨x, hx, hbest, hall⟩ := allP_best hnn
      have hgv : gr = (x.move, x.gain, 0) := by rw [HGR.out, greedyP, if_pos HQ.out.1, if_neg hnn, hbest]
      subst hgv
      dsimp only
      have hN0' : ((N : Int) == 0) = false := beq_eq_false_iff_ne.2 (by omega)
      have HALL : Hid (∀ (k : Nat) y, l[k]? = some y → y.1.gain < x.gain ∨ (y.1.gain = x.gain ∧ x.move ≤ y.1.move)) := fun k y hy => hall y.1 (by rw [← HLL.out]; exact List.mem_map_of_mem (List.mem_of_getElem? hy))
      have HFN : Hid (fnd l x.move x.gain N = true) := by
        unfold Hid fnd
        rw [HNN.out, List.take_length, List.any_eq_true]
        rw [← HLL.out] at hx
        obtain ⟨y, hy, rfl⟩ := List.mem_map.1 hx
        exact ⟨y, hy, by simp⟩
      have hga : ad = some ⟨g, 0, none⟩ := HG2.out (by rw [← HNN.out]; omega)
      subst hga
      obtain ⟨M, hM⟩ : ∃ M, M = x.move := ⟨_, rfl⟩
      obtain ⟨G, hG⟩ : ∃ G, G = x.gain := ⟨_, rfl⟩
      rw [← hM, ← hG] at HALL HFN ⊢
      have HLN := Lib.hid HNN.out
      clear hx hbest hall hnn hN0 hM hG
      go_wp2_with fail
      go_loopw [14, 15] (fun f i wx => FdF l M G f i ∧ wx = w7) (fun _ i _ => N - (intOf i).toNat)
      case atStart => exact ⟨⟨0, Nat.zero_le _, rfl, by simp [fnd]⟩, rfl⟩
      case round =>
        obtain ⟨⟨i, hil, rfl, rfl⟩, rfl⟩ := hrel
        have hiN : i ≤ N := by rw [HNN.out]; exact hil
        by_cases hi : i < N
        · obtain ⟨y, hy⟩ : ∃ y, l[i]? = some y := ⟨_, List.getElem?_eq_getElem (by have := HNN.out; omega)⟩
          obtain ⟨y0, y1, _, _, _, _⟩ := box_cells HBX7.out hy
          have HA := Lib.hid (HALL.out i y hy)
          have HS := Lib.hid (fnd_succ (M := M) (G := G) hy)
          obtain ⟨f, hf⟩ : ∃ f, f = fnd l M G i := ⟨_, rfl⟩
          rw [← hf] at HS ⊢
          obtain ⟨yg, hyg⟩ : ∃ v, v = y.1.gain := ⟨_, rfl⟩
          obtain ⟨ym, hym⟩ : ∃ v, v = y.1.move := ⟨_, rfl⟩
          rw [← hyg, ← hym] at HA HS
          rw [← hyg] at y1
          rw [← hym] at y0
          have hiI : (i : Int) < (N : Int) := by omega
          have hnl : N = l.length := HNN.out
          have HNL := Lib.hid hnl
          clear hf hyg hym hy hil hnl
          have h1 : ¬ G < yg := by rcases HA.out with h | h <;> omega
          by_cases e1 : yg = G
          · subst e1
            have h2 : ¬ ym < M := by rcases HA.out with h | h <;> omega
            cases f
            · by_cases e2 : ym = M
              · subst e2
                have HR : Hid (FdF l ym yg (.bool true) (.int .i64 ((i : Int) + 1))) := ⟨i + 1, by have := HNL.out; omega, by go_num, by rw [HS.out]; simp⟩
                go_wp2
                go_roundw
                case rel => first | exact ⟨HR.out, trivial⟩ | exact HR.out | exact ⟨HR.out, rfl⟩ | ((repeat apply Exists.intro); exact ⟨⟨HR.out, rfl⟩, rfl⟩) | ((repeat apply Exists.intro); refine ⟨⟨HR.out, rfl⟩, ?_⟩; (repeat' apply And.intro) <;> rfl)
                case measure => (simp [intOf]; omega)
              · have e2' : (ym == M) = false := by simpa using e2
                have HR : Hid (FdF l M yg (.bool false) (.int .i64 ((i : Int) + 1))) := ⟨i + 1, by have := HNL.out; omega, by go_num, by rw [HS.out, e2']; rfl⟩
                clear e2
                go_wp2
                go_roundw
                case rel => first | exact ⟨HR.out, trivial⟩ | exact HR.out | exact ⟨HR.out, rfl⟩ | ((repeat apply Exists.intro); exact ⟨⟨HR.out, rfl⟩, rfl⟩) | ((repeat apply Exists.intro); refine ⟨⟨HR.out, rfl⟩, ?_⟩; (repeat' apply And.intro) <;> rfl)
                case measure => (simp [intOf]; omega)
            · have HR : Hid (FdF l M yg (.bool true) (.int .i64 ((i : Int) + 1))) := ⟨i + 1, by have := HNL.out; omega, by go_num, by rw [HS.out]; rfl⟩
              go_wp2
              go_roundw
              case rel => first | exact ⟨HR.out, trivial⟩ | exact HR.out | exact ⟨HR.out, rfl⟩ | ((repeat apply Exists.intro); exact ⟨⟨HR.out, rfl⟩, rfl⟩) | ((repeat apply Exists.intro); refine ⟨⟨HR.out, rfl⟩, ?_⟩; (repeat' apply And.intro) <;> rfl)
              case measure => (simp [intOf]; omega)
          · have e1' : (yg == G) = false := by simpa using e1
            clear e1
            cases f
            · have HR : Hid (FdF l M G (.bool false) (.int .i64 ((i : Int) + 1))) := ⟨i + 1, by have := HNL.out; omega, by go_num, by rw [HS.out, e1']; simp⟩
              cases e2 : (ym == M)
              all_goals
                go_wp2
                go_roundw
                (case rel => first | exact ⟨HR.out, trivial⟩ | exact HR.out | exact ⟨HR.out, rfl⟩ | ((repeat apply Exists.intro); exact ⟨⟨HR.out, rfl⟩, rfl⟩) | ((repeat apply Exists.intro); refine ⟨⟨HR.out, rfl⟩, ?_⟩; (repeat' apply And.intro) <;> rfl))
                (case measure => (simp [intOf]; omega))
            · have HR : Hid (FdF l M G (.bool true) (.int .i64 ((i : Int) + 1))) := ⟨i + 1, by have := HNL.out; omega, by go_num, by rw [HS.out]; rfl⟩
              go_wp2
              go_roundw
              case rel => first | exact ⟨HR.out, trivial⟩ | exact HR.out | exact ⟨HR.out, rfl⟩ | ((repeat apply Exists.intro); exact ⟨⟨HR.out, rfl⟩, rfl⟩) | ((repeat apply Exists.intro); refine ⟨⟨HR.out, rfl⟩, ?_⟩; (repeat' apply And.intro) <;> rfl)
              case measure => (simp [intOf]; omega)
        · have hiN' : i = N := by omega
          have HT : Hid (fnd l M G i = true) := by unfold Hid; rw [hiN']; exact HFN.out
          have hnl : ¬ (i : Int) < (N : Int) := by omega
          clear hiN' hil
          go_wp2
          go_ret
          exact ⟨by rw [HT.out]; rfl, B7.out⟩
set_option maxRecDepth 100000 in
theorem contract (H : Type) (enc : TypeId × Value → H) (W : World) (base : Nat) (args : Array Value) (ds gs : List (DataW H)) (before : List MemPlace)
    (hval : ∀ (j : Nat) t v, Try.f14.params[j]? = some t → args[j]? = some v → Value.okWide Try.prog W .any base t v)
    (hW : DataW.Whole enc Try.prog Try.f14.params.toList Rows.fnFeedingSpec.vars false W args.toList ds gs before) :
    Calls Try.prog 14 args W fun e W' => ∃ v, e = .returned v ∧ Rows.fnFeedingSpec.post enc Try.prog Try.f14 false true false false W args v W' := by
  have hW' := hW
  obtain ⟨p, q, hA0, hV, rfl, hfz, hnd⟩ := hW
  have hA : DataW.TrodAll enc Try.prog W 0 (fun _ => true) true Try.f14.params.toList args.toList ds p := hA0
  rw [Try.params14] at hA hval
  obtain ⟨v0, vs0, d0, ds0, p0, q0, hargs, rfl, rfl, h0, r0⟩ := trodAll_cons hA
  obtain ⟨rfl, rfl, rfl⟩ := trodAll_nil r0
  obtain rfl : args = #[v0] := by cases args; simp_all
  obtain ⟨ba0, bc0, bs0, rfl, w0⟩ := arg_bytes (hval 0 55 v0 rfl rfl) h0
  refine (walk ba0 bc0 bs0 W w0.2.1 w0.2.2.2).mono fun e W' ⟨he, hb⟩ => ?_
  subst he
  exact ⟨_, rfl, law_post hW' hb rfl rfl (by kernel_rfl) rfl⟩

set_option maxRecDepth 100000 in
theorem lifted (os : Os) (started : os.Started) (H : Type) (enc : TypeId × Value → H) :
    ReturnsInHanded {} Try.checked os 14 .any (Rows.fnFeedingSpec.pre6 enc Try.prog Try.f14 Rows.fnFeedingRow.domain false) (Rows.fnFeedingSpec.post enc Try.prog Try.f14 false true false false) := by
  refine returnsInHanded_of_change (C := Try.checked) (s := Rows.fnFeedingSpec) own started (by kernel_rfl) Try.func14
    (ChangeSpec.witness6 (enc := enc) (C := Try.checked) (s := Rows.fnFeedingSpec) false ⟨#[], #[.slice none 0 0], []⟩ 8 (by kernel_rfl) (by kernel_rfl) (by kernel_rfl) (by kernel_rfl)) ?_
  intro W base args ds gs before hval hW _ _
  exact contract H enc W base args ds gs before hval hW

theorem proved : Rows.FnFeedingSaid :=
  OpenClaim.holds_of_wide 14 Try.f14 rfl rfl rfl rfl rfl rfl rfl ⟨rfl, rfl, rfl, rfl, rfl⟩ rfl rfl rfl rfl rfl (by kernel_rfl) Try.func14 (by kernel_rfl)
    (of_decide_eq_true (by kernel_rfl)) (by unfold Func.isWrapper; first | (rw [if_pos (by decide +kernel)]; kernel_rfl) | (rw [if_neg (by decide +kernel)]; exact ⟨rfl, rfl⟩))
    (fun os started H enc _ => lifted os started H enc)
end Go.Proofs.Yteabheocbkcmnaa.lFeeding
