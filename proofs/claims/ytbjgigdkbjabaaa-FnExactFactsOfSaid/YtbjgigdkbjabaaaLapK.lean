/- LapK: a lap of the program's sowing keeps the blocks that K names (printed by gen/lapk.py out of Lap2). The contract holds for every argument, under the premises that it states. -/
import Derived.Test.YtbjgigdkbjabaaaLap2
namespace Go.Proofs.Ytbjgigdkbjabaaa
set_option linter.unusedSimpArgs false
set_option linter.unusedVariables false
set_option linter.unnecessarySimpa false
open Go.RowKit Go.ChangeShapes Go.WideShapes Go.ChangeAt Go.Joins

/-- all that stood below base, and the blocks that K names, are as they were -/
structure BelK (K : Nat → Prop) (base : Nat) (w w' : World) : Prop where
  bel : Below base w w'
  keep : ∀ k, K k → w'.heap[k]? = w.heap[k]?
  lt : ∀ k, K k → k < w.heap.size
theorem BelK.refl {K : Nat → Prop} {base : Nat} {w : World} (h : ∀ k, K k → k < w.heap.size) : BelK K base w w := ⟨Below.refl _ _, fun _ _ => rfl, h⟩
theorem set_heap (w : World) {g i : Nat} (v : Value) {k : Nat} (h : ¬ k = g) : (w.setCell ⟨g, i, none⟩ v).heap[k]? = w.heap[k]? := Below.heap_setCell w ⟨g, i, none⟩ v k h
theorem BelK.setCell {K : Nat → Prop} {base : Nat} {w w1 : World} (h : BelK K base w w1) {g i : Nat} (hg : base ≤ g) (hk : ¬ K g) (v : Value) : BelK K base w (w1.setCell ⟨g, i, none⟩ v) :=
  ⟨h.bel.setCell (p := ⟨g, i, none⟩) hg v, fun k hkk => (set_heap w1 v (fun e => hk (by rw [← e]; exact hkk))).trans (h.keep k hkk), h.lt⟩
theorem BelK.below {K : Nat → Prop} {base : Nat} {w w1 w2 : World} (h : BelK K base w w1) (hs : base ≤ w1.heap.size) (hb : Below w1.heap.size w1 w2) : BelK K base w w2 :=
  ⟨h.bel.trans (hb.mono hs), fun k hk => (hb.block k (Nat.lt_of_lt_of_le (h.lt k hk) h.bel.size)).trans (h.keep k hk), h.lt⟩
theorem BelK.grown {K : Nat → Prop} {base : Nat} {w w1 w2 : World} {row : Option Nat} (h : BelK K base w w1) (hg : w1.grownBy w2 row) (hs : base ≤ w1.heap.size) (hr : ∀ k, row = some k → base ≤ k) (hk : ∀ k, row = some k → ¬ K k) : BelK K base w w2 :=
  ⟨h.bel.grown hg hs hr, fun k hkk => (hg.block k (Nat.lt_of_lt_of_le (h.lt k hkk) h.bel.size) (fun e => hk k e.symm hkk)).trans (h.keep k hkk), h.lt⟩

/-- a round of a lap -/
structure LapStK (K : Nat → Prop) (base : Nat) (w wr : World) (nb no pg pc sg sc : Nat) (r : R) (pn fn : Nat) (L : Lap) (len : Nat) (n : Nat) (pl : Int) (P S T : List Int) (ta : Option Addr) (tc : Nat) : Prop where
  ok : PlaceOk r pl
  go : lapGo r pn fn n pl P S T = L
  n1 : n ≤ 1000000
  bp : bdL P (2000000 - n)
  bs : bdL S (2000000 - n)
  pt : T.length + n ≤ 1001000000
  lp : P.length = len
  ls : S.length = 2
  sn : SnI base wr nb no pg pc sg sc P S
  ow : OwnI wr base ta tc T
  ap : TAp ta T.length tc nb pg sg
  bl : BelK K base w wr
  nk : ¬ K nb ∧ ¬ K pg ∧ ¬ K sg
  ak : ∀ k, (Value.slice ta T.length tc).ownBlock = some k → ¬ K k
theorem LapStK.next {K : Nat → Prop} {base : Nat} {w wr w1 w4 : World} {nb no pg pc sg sc : Nat} {r : R} {pn fn : Nat} {L : Lap} {len m : Nat} {pl q : Int} {P S T P' S' : List Int} {ta ad' : Option Addr} {tc c' : Nat} {cs : Array Value} {e : TypeId}
    (h : LapStK K base w wr nb no pg pc sg sc r pn fn L len (m + 1) pl P S T ta tc) (hsn : SnI base w1 nb no pg pc sg sc P' S') (hsz : w1.heap.size = wr.heap.size) (hw1 : BelK K base w w1)
    (hgo : lapGo r pn fn m q P' S' (T ++ [q]) = L) (hq : PlaceOk r q) (bp' : bdL P' (2000000 - m)) (bs' : bdL S' (2000000 - m)) (lp' : P'.length = len) (ls' : S'.length = 2)
    (hg4 : (w1.alloc (.cells cs e)).grownBy w4 (Value.slice ta T.length tc).ownBlock) (hn4 : ∀ k, (Value.slice ad' (T.length + 1) c').ownBlock = some k → (Value.slice ta T.length tc).ownBlock = some k ∨ wr.heap.size + 1 ≤ k)
    (how : OwnI w1 base ta tc T) (hown4 : w4.ownsRow base 2 1 (.slice ad' (T.length + 1) c') (T.length + 1) (T.map (Value.int .i64) ++ [.int .i64 q])) :
    LapStK K base w w4 nb no pg pc sg sc r pn fn L len m q P' S' (T ++ [q]) ad' c' := by
  have hnb := hsn.lt
  have hp := own_head hsn.op
  have hs := own_head hsn.os
  have hnb0 := hsn.nb0
  refine ⟨hq, hgo, by have := h.n1; omega, bp', bs', by have := h.pt; simp; omega, lp', ls', ?_, by simpa [OwnI] using hown4, ?_, ?_, h.nk, ?_⟩
  · exact (hsn.below (below_alloc1 _ _)).grown hg4 (fun e => (h.ap _ e).1 rfl) (fun e => (h.ap _ e).2.1 rfl) (fun e => (h.ap _ e).2.2 rfl)
  · intro k hk
    simp only [List.length_append, List.length_cons, List.length_nil] at hk
    rcases hn4 k hk with h1 | h1
    · exact h.ap k h1
    · omega
  · exact (hw1.below (by omega) (below_alloc1 _ _)).grown hg4 (by simp; omega) (fun k hk => (how.lt k hk).1) h.ak
  · intro k hk hkk
    simp only [List.length_append, List.length_cons, List.length_nil] at hk
    rcases hn4 k hk with h1 | h1
    · exact h.ak k h1 hkk
    · have a := h.bl.lt k hkk
      have b := h.bl.bel.size
      omega
theorem LapStK.below {K : Nat → Prop} {base : Nat} {w wr w1 : World} {nb no pg pc sg sc : Nat} {r : R} {pn fn : Nat} {L : Lap} {len n : Nat} {pl : Int} {P S T : List Int} {ta : Option Addr} {tc : Nat}
    (h : LapStK K base w wr nb no pg pc sg sc r pn fn L len n pl P S T ta tc) (hb : Below wr.heap.size wr w1) : LapStK K base w w1 nb no pg pc sg sc r pn fn L len n pl P S T ta tc :=
  ⟨h.ok, h.go, h.n1, h.bp, h.bs, h.pt, h.lp, h.ls, h.sn.below hb, own_below h.ow hb (Nat.le_refl _), h.ap, h.bl.below (Nat.le_trans h.sn.nb0 (Nat.le_of_lt h.sn.lt)) hb, h.nk, h.ak⟩
theorem LapStK.fld {K : Nat → Prop} {base : Nat} {w wr : World} {nb no pg pc sg sc : Nat} {r : R} {pn fn : Nat} {L : Lap} {len n : Nat} {pl : Int} {P S T : List Int} {ta : Option Addr} {tc : Nat}
    (h : LapStK K base w wr nb no pg pc sg sc r pn fn L len n pl P S T ta tc) (j : Nat) (v : Value) (hj : no + 2 ≤ j) : LapStK K base w (wr.setCell ⟨nb, j, none⟩ v) nb no pg pc sg sc r pn fn L len n pl P S T ta tc :=
  ⟨h.ok, h.go, h.n1, h.bp, h.bs, h.pt, h.lp, h.ls, h.sn.fld j v hj, ownsRow_setCell_other h.ow (fun e => (h.ap _ e).1 rfl) _, h.ap, h.bl.setCell h.sn.nb0 h.nk.1 _, h.nk, h.ak⟩
/-- what a lap leaves -/
def LapResK (K : Nat → Prop) (base sb pg pc sg sc : Nat) (r : R) (pn : Nat) (L : Lap) (laps : Int) (w : World) (e : Ending) (w' : World) : Prop := ∃ ta' tc',
  e = .returned (.bool (moreP r L)) ∧ SnI base w' sb 10 pg pc sg sc L.pits L.stores ∧ Fld w' sb 10 L.last (laps + 1) ∧ SwF w' sb r pn ta' L.path.length tc' ∧
    OwnI w' base ta' tc' L.path ∧ TAp ta' L.path.length tc' sb pg sg ∧ BelK K base w w' ∧ ∀ k, (Value.slice ta' L.path.length tc').ownBlock = some k → ¬ K k

set_option maxRecDepth 100000 in
set_option maxHeartbeats 16000000 in
theorem lapK_c (K : Nat → Prop) (base sb pg pc sg sc : Nat) (r : R) (hb : r.Bd) (pn fn : Nat) (pits stores path : List Int) (last laps : Int) (ta : Option Addr) (tc : Nat) (w : World)
    (hS : SnI base w sb 10 pg pc sg sc pits stores) (hF : Fld w sb 10 last laps) (hW : SwF w sb r pn ta path.length tc)
    (hT : OwnI w base ta tc path) (hTA : TAp ta path.length tc sb pg sg) (hpn : pn ≤ 1) (hlen : (pits.length : Int) = 2 * r.pits) (hsl : stores.length = 2) (hfn : fn < pits.length)
    (hbp : bdL pits 1000000) (hbs : bdL stores 1000000) (hK : ¬ K sb ∧ ¬ K pg ∧ ¬ K sg) (hKl : ∀ k, K k → k < w.heap.size) (hKa : ∀ k, (Value.slice ta path.length tc).ownBlock = some k → ¬ K k) (hpa : path.length ≤ 1000000000) (hlp : 0 ≤ laps ∧ laps ≤ 1000) :
    Calls Try.prog 122 #[.pointer (some ⟨sb, 0, none⟩), .int .i64 (fn : Int)] w (LapResK K base sb pg pc sg sc r pn (lapP r pn fn pits stores path) laps w) := by
  obtain ⟨i0, hi, hz0, hz1, hz2⟩ := info_parts infoI
  obtain ⟨lo, hi8⟩ := hb
  obtain ⟨lp0, lp1⟩ := hlp
  have hf0 := bdL_get hbp hfn
  have hcf : w.cell? ⟨pg, fn, none⟩ = some (.int .i64 pits[fn]) := by rw [hS.op.cellAt fn (by omega)]; simp [hfn]
  have hff := hS.op.frozenAt fn
  obtain ⟨d0, d1⟩ := (⟨hS.c0, hS.c1⟩ : _ ∧ _)
  have hb' : r.Bd := ⟨lo, hi8⟩
  obtain ⟨s0, hs0⟩ : ∃ s : Nat, pits[fn] = s := ⟨pits[fn].toNat, by omega⟩
  have hL : Hid (LapStK K base w (w.setCell ⟨pg, fn, none⟩ (.int .i64 0)) sb 10 pg pc sg sc r pn fn (lapP r pn fn pits stores path) pits.length s0 fn (pits.set fn 0) stores path ta tc) := by
    refine ⟨.inr ⟨by omega, by omega⟩, ?_, by omega, bdL_set (bdL_mono hbp (by omega)) _ (by omega) (by omega), bdL_mono hbs (by omega), by omega, by simp, hsl, hS.pit fn 0, ?_, hTA, (BelK.refl hKl).setCell (own_head hS.op).1 hK.2.1 _, hK, hKa⟩
    · unfold lapP
      have e1 : (pits.getD (fn : Int).toNat 0).toNat = s0 := by simp [hfn, hs0]
      rw [e1]
      simp
    · refine ownsRow_setCell_other hT (fun e => ?_) _
      exact (hTA _ e).2.1 rfl
  have HC : Hid (Fld (w.setCell ⟨pg, fn, none⟩ (.int .i64 0)) sb 10 last laps ∧ SwF (w.setCell ⟨pg, fn, none⟩ (.int .i64 0)) sb r pn ta path.length tc) := ⟨hF.other (fun e => hS.n2 e.symm) _, hW.other (fun e => hS.n2 e.symm) _⟩
  clear hS hT hTA hF hW hK hKl hKa
  go_enter Try.func122, Try.ntmps122
  go_wp2
  go_loopw [5, 6, 7] (fun s p b wr => ∃ (n : Nat) (pl bf : Int) (P S T : List Int) (ta : Option Addr) (tc : Nat), s = .int .i64 n ∧ p = .int .i64 pl ∧ b = .int .i64 bf ∧ LapStK K base w wr sb 10 pg pc sg sc r pn fn (lapP r pn fn pits stores path) pits.length n pl P S T ta tc ∧
      Fld wr sb 10 last laps ∧ SwF wr sb r pn ta T.length tc ∧ BF pl bf P) (fun s _ _ _ => (intOf s).toNat)
  case atStart => exact ⟨s0, fn, 0, _, _, _, _, _, rfl, rfl, rfl, hL.out, HC.out.1, HC.out.2, ⟨⟨by omega, by omega⟩, fun _ => by simp [hfn]⟩⟩
  case round =>
    clear hcf hff d0 d1 hL HC
    obtain ⟨n, pl, bf, P, S, T, ta, tc, rfl, rfl, rfl, hst, hfl, hsw, hbf⟩ := hrel
    have HST := Lib.hid hst
    have HFL := Lib.hid hfl
    have HSW := Lib.hid hsw
    have HBF := Lib.hid hbf
    by_cases h0 : n = 0
    · subst h0
      have HG := Lib.hid (show lapP r pn fn pits stores path = ⟨P, S, T, pl⟩ from hst.go.symm)
      obtain ⟨c2, c3, cz⟩ := hfl
      have c4 := hsw.rules.c4
      clear hst hbf hsw
      have hrel : Hid (moreP r ⟨P, S, T, pl⟩ = (r.relay && decide (0 ≤ pl) && decide (0 < bf))) := by
        unfold Hid moreP
        cases r.relay
        · rfl
        · by_cases hp : 0 ≤ pl
          · have := HBF.out.2 hp
            simp only [hp, decide_true, Bool.true_and]
            exact decide_eq_decide.2 this.symm
          · simp [hp]
      simp only [Nat.reduceAdd] at c2 c3 c4
      have hs := HST.out
      have CL : Hid (SnI base ((wr.setCell ⟨sb, 12, none⟩ (.int .i64 pl)).setCell ⟨sb, 13, none⟩ (.int .i64 (laps + 1))) sb 10 pg pc sg sc P S ∧ Fld ((wr.setCell ⟨sb, 12, none⟩ (.int .i64 pl)).setCell ⟨sb, 13, none⟩ (.int .i64 (laps + 1))) sb 10 pl (laps + 1) ∧
          SwF ((wr.setCell ⟨sb, 12, none⟩ (.int .i64 pl)).setCell ⟨sb, 13, none⟩ (.int .i64 (laps + 1))) sb r pn ta T.length tc ∧ OwnI ((wr.setCell ⟨sb, 12, none⟩ (.int .i64 pl)).setCell ⟨sb, 13, none⟩ (.int .i64 (laps + 1))) base ta tc T ∧ TAp ta T.length tc sb pg sg ∧
          BelK K base w ((wr.setCell ⟨sb, 12, none⟩ (.int .i64 pl)).setCell ⟨sb, 13, none⟩ (.int .i64 (laps + 1))) ∧ ∀ k, (Value.slice ta T.length tc).ownBlock = some k → ¬ K k) := by
        have h2 := (hs.fld 12 (.int .i64 pl) (by omega)).fld 13 (.int .i64 (laps + 1)) (by omega)
        refine ⟨h2.sn, ⟨?_, ?_, ?_⟩, (HSW.out.off _ (.inl rfl)).off _ (.inr rfl), h2.ow, h2.ap, h2.bl, h2.ak⟩
        · rw [cell_off (by omega)]
          exact World.cell?_setCell_same _ _ _ c2
        · refine World.cell?_setCell_same _ _ (u := .int .i64 laps) _ ?_
          rw [cell_off (by omega)]
          exact c3
        · intro o; simpa using cz o
      clear hs
      go_wp2
      all_goals go_ret
      all_goals rw [HG.out]
      all_goals refine ⟨ta, tc, ?_⟩
      all_goals rw [hrel.out]
      all_goals refine ⟨ret_bool ?_, CL.out⟩
      all_goals (simp [*]; try (intros; omega))
    · have hn0 : 0 < n := by omega
      have hnn := hst.n1
      have hlt := hst.pt
      have hpk := hst.ok
      obtain ⟨q, hq⟩ : ∃ q, q = nextP r pn pl := ⟨_, rfl⟩
      have hqk : PlaceOk r q := by rw [hq]; exact nextP_ok hb' _ _ ⟨by omega, by omega⟩ hpk
      obtain ⟨q2, hq2⟩ : ∃ q2, q2 = nextP r pn fn := ⟨_, rfl⟩
      have hqk2 : PlaceOk r q2 := by rw [hq2]; exact nextP_ok hb' _ _ ⟨by omega, by omega⟩ (.inr ⟨by omega, by omega⟩)
      have HN1 : Hid (∀ W : World, Calls Try.prog 159 #[r.val, .int .i64 pn, .int .i64 pl] W fun e w' => e = .returned (.int .i64 q) ∧ Below W.heap.size W w') := fun W => by
        rw [hq]; exact after_c r pn pl W hb' ⟨by omega, by omega⟩ hpk
      have HN2 : Hid (∀ W : World, Calls Try.prog 159 #[r.val, .int .i64 pn, .int .i64 fn] W fun e w' => e = .returned (.int .i64 q2) ∧ Below W.heap.size W w') := fun W => by
        rw [hq2]; exact after_c r pn fn W hb' ⟨by omega, by omega⟩ (.inr ⟨by omega, by omega⟩)
      obtain ⟨m, hm⟩ : ∃ m, n = m + 1 := ⟨n - 1, by omega⟩
      have hm2 : (n : Int) - 1 = m := by omega
      have HM := Lib.hid hm
      have HM2 := Lib.hid hm2
      obtain ⟨st, hst'⟩ : ∃ st, st = stepP r pn fn pl := ⟨_, rfl⟩
      have hgo : Hid (lapP r pn fn pits stores path = if st = -1 then lapGo r pn fn m st P (bump S pn) (T ++ [st]) else lapGo r pn fn m st (bump P st) S (T ++ [st])) := by
        have h1 := hst.go
        rw [hm] at h1
        unfold Hid
        rw [← h1]
        simp only [lapGo, hst']
      have hskw : (r.skip = false ∧ st = q) ∨ (r.skip = true ∧ (q == (fn : Int)) = false ∧ st = q) ∨ (r.skip = true ∧ q = fn ∧ st = q2) := by
        rw [hst', hq2, hq]
        unfold stepP
        cases hk : r.skip
        · exact .inl ⟨rfl, by simp⟩
        · by_cases hf : nextP r pn pl = fn
          · exact .inr (.inr ⟨rfl, hf, by rw [if_pos ⟨rfl, hf⟩, hf]⟩)
          · exact .inr (.inl ⟨rfl, by simpa using hf, by rw [if_neg (fun h => hf h.2)]⟩)
      obtain ⟨c0, c1, c2, c3, c4, c5, c6, c7, c8⟩ := hsw.rules
      have c9 := hsw.c9
      simp only [Nat.zero_add] at c1 c2 c3 c4 c5 c6 c7 c8
      have d0 := hst.sn.c0
      have d1 := hst.sn.c1
      have d14 := hsw.c14
      have hfz := hfl.fz
      simp only [Nat.reduceAdd] at d0 d1
      have hsb : sb < wr.heap.size := hst.sn.lt
      clear hq hq2 hst hm hm2 hst' hfl hsw hbf hpk
      go_wp2_with fail
      go_region_held3 (fun w' => ∀ o, w'.cell? ⟨sb, o, none⟩ = wr.cell? ⟨sb, o, none⟩) (first | exact hcA | (intro o; rfl))
        (first | (go_at_call 159; refine (HN1.out _).mono ?_; rintro e w1 ⟨rfl, hb1⟩; have hcA : ∀ o, w1.cell? ⟨sb, o, none⟩ = wr.cell? ⟨sb, o, none⟩ := fun o => (bcell hb1).1 sb o hsb))
      have ST1 := Lib.hid ((HST.out.below (Below.refl _ _).drew).below hb1)
      have FL1 := Lib.hid ((HFL.out.below (Below.refl _ _).drew).below hb1)
      have SW1 := Lib.hid ((HSW.out.below (Below.refl _ _).drew).below hb1)
      have hfz1 : ∀ o, w1.frozen? ⟨sb, o, none⟩ = false := FL1.out.fz
      clear hcA hb1 hsb HST HFL HSW HN1 hfz
      rcases hskw with ⟨hk, rfl⟩ | ⟨hk, hqe, rfl⟩ | ⟨hk, rfl, rfl⟩
      · rw [hk] at c3
        clear hk
        have x14 := SW1.out.c14
        have x0 := ST1.out.sn.c0
        by_cases hqm : st = -1
        · subst hqm
          have hs := ST1.out
          have hl2 : pn < S.length := by rw [hs.ls]; omega
          obtain ⟨sv, hsv⟩ : ∃ sv, sv = S[pn] := ⟨_, rfl⟩
          have hb0 : 0 ≤ sv ∧ sv ≤ 2000000 - n := by rw [hsv]; exact bdL_get hs.bs hl2
          obtain ⟨hb0, hb1⟩ := hb0
          have kc : w1.cell? ⟨sg, pn, none⟩ = some (.int .i64 sv) := by rw [hs.sn.os.cellAt pn (by omega), hsv]; simp [hl2]
          have kf := hs.sn.os.frozenAt pn
          have kn : ¬ sb = sg := fun e => hs.sn.n3 e.symm
          have kn2 : ¬ sg = sb := hs.sn.n3
          have SN1 := Lib.hid (hs.sn.sto pn (sv + 1))
          have OW1 := Lib.hid (show OwnI (w1.setCell ⟨sg, pn, none⟩ (.int .i64 (sv + 1))) base ta tc T from ownsRow_setCell_other hs.ow (fun e => (hs.ap _ e).2.2 rfl) _)
          have FLS := Lib.hid (FL1.out.other (g := sg) (i := pn) kn (.int .i64 (sv + 1)))
          have SWS := Lib.hid (SW1.out.other (g := sg) (i := pn) kn (.int .i64 (sv + 1)))
          have BL1 := Lib.hid (hs.bl.setCell (g := sg) (i := pn) (own_head hs.sn.os).1 hs.nk.2.2 (.int .i64 (sv + 1)))
          have hbs0 : base ≤ w1.heap.size := Nat.le_trans hs.sn.nb0 (Nat.le_of_lt hs.sn.lt)
          have GO1 : Hid (lapGo r pn fn m (-1) P (S.set pn (sv + 1)) (T ++ [-1]) = lapP r pn fn pits stores path) := by
            have := hgo.out
            rw [if_pos rfl, bump_eq hl2, ← hsv] at this
            exact this.symm
          have BF4 : Hid (BF (-1) bf P) := ⟨HBF.out.1, fun h => by omega⟩
          clear hs hsv
          go_wp2
          go_still_tail 13, (by kernel_rfl)
          change wpList _ _ _ _ _ w1.drew
          go_wp2_with (at_builtin; refine wpList_append_own2 _ rfl _ _ 24 rfl base 2 i0 (.int .i64 0) 1 8 Try.underlying24 hi hz0 hz1 hz2 rfl (by decide) _ _ _ rfl (World.ownsRow.drew (OW1.out.alloc _)) ⟨w1.heap.size, 0, none⟩ 1 1 [.int .i64 (-1)] rfl rfl ?_ ?_ ?_ ?_ ?_ ?_)
          · intro j u hu
            match j, hu with
            | 0, hu => (simp at hu; subst hu; have := (made (w := (w1.setCell ⟨sg, pn, none⟩ (.int .i64 (sv + 1)))) (cs := #[.int .i64 (-1)]) (e := 2) rfl).2.1 0 _ rfl; simpa [Addr.add] using this)
          · intro u hu; simp at hu; subst hu; rfl
          · unfold maxLen; omega
          · omega
          · simp; omega
          intro ad' c' w4 hown4 hg4 hn4
          replace hg4 : ((w1.setCell ⟨sg, pn, none⟩ (.int .i64 (sv + 1))).alloc (.cells #[.int .i64 (-1)] 2)).grownBy w4 (Value.slice ta T.length tc).ownBlock := grown_undrew hg4
          have hst := ST1.out
          rw [HM.out] at hst
          have ST4 := Lib.hid (LapStK.next hst SN1.out (by simp) BL1.out GO1.out (.inl rfl) (bdL_mono hst.bp (by omega)) (bdL_set (bdL_mono hst.bs (by omega)) _ (by omega) (by have := HM.out; omega)) hst.lp (by simp; exact hst.ls) hg4 (fun k hk => (hn4 k hk).imp id (fun h => by simpa using h)) OW1.out hown4)
          have FL4 := Lib.hid (Fld.next (wr := w1) FLS.out (by simp; exact hst.sn.lt) hg4 (fun e => (hst.ap _ e).1 rfl))
          have SW4 := Lib.hid ((SWS.out.below (below_alloc1 _ (.cells #[.int .i64 (-1)] 2))).grown hg4 (fun e => (hst.ap _ e).1 rfl))
          have x15 := SW4.out.c14
          have fz4 := FL4.out.fz
          clear hst hown4 hg4 hn4
          go_wp2
          go_roundw
          case rel => exact ⟨m, (-1), bf, _, _, T ++ [(-1)], ad', c', by rw [HM2.out], rfl, rfl, ST4.out.fld 14 _ (by omega), FL4.out.off _ (by omega) (by omega), by simpa using SW4.out.path (ta' := ad') (tn' := T.length + 1) (tc' := c'), BF4.out⟩
          case measure => (have hm9 := HM.out; simp [intOf]; omega)
        · obtain ⟨qn, rfl⟩ : ∃ qn : Nat, st = qn := ⟨st.toNat, by rcases hqk with h | h <;> omega⟩
          have hs := ST1.out
          have hqr : qn < P.length := by
            rcases hqk with h | h
            · exact absurd h hqm
            · have := hs.lp; omega
          have hqmb : ((qn : Int) == -1) = false := by simpa using hqm
          have HQM := Lib.hid hqm
          have HQK := Lib.hid hqk
          clear hqm hqk
          obtain ⟨sv, hsv⟩ : ∃ sv, sv = P[qn] := ⟨_, rfl⟩
          have hb0 : 0 ≤ sv ∧ sv ≤ 2000000 - n := by rw [hsv]; exact bdL_get hs.bp hqr
          obtain ⟨hb0, hb1⟩ := hb0
          have kc : w1.cell? ⟨pg, qn, none⟩ = some (.int .i64 sv) := by rw [hs.sn.op.cellAt qn (by omega), hsv]; simp [hqr]
          have kf := hs.sn.op.frozenAt qn
          have kn : ¬ sb = pg := fun e => hs.sn.n2 e.symm
          have kn2 : ¬ pg = sb := hs.sn.n2
          have SN1 := Lib.hid (hs.sn.pit qn (sv + 1))
          have OW1 := Lib.hid (show OwnI (w1.setCell ⟨pg, qn, none⟩ (.int .i64 (sv + 1))) base ta tc T from ownsRow_setCell_other hs.ow (fun e => (hs.ap _ e).2.1 rfl) _)
          have FLS := Lib.hid (FL1.out.other (g := pg) (i := qn) kn (.int .i64 (sv + 1)))
          have SWS := Lib.hid (SW1.out.other (g := pg) (i := qn) kn (.int .i64 (sv + 1)))
          have BL1 := Lib.hid (hs.bl.setCell (g := pg) (i := qn) (own_head hs.sn.op).1 hs.nk.2.1 (.int .i64 (sv + 1)))
          have hbs0 : base ≤ w1.heap.size := Nat.le_trans hs.sn.nb0 (Nat.le_of_lt hs.sn.lt)
          have GO1 : Hid (lapGo r pn fn m qn (P.set qn (sv + 1)) S (T ++ [(qn : Int)]) = lapP r pn fn pits stores path) := by
            have := hgo.out
            rw [if_neg HQM.out, bump_eq hqr, ← hsv] at this
            exact this.symm
          have BF4 : Hid (BF qn sv (P.set qn (sv + 1))) := ⟨⟨hb0, by omega⟩, fun _ => by simp [hqr]; omega⟩
          clear hs hsv
          go_wp2_with (at_builtin; refine wpList_append_own2 _ rfl _ _ 24 rfl base 2 i0 (.int .i64 0) 1 8 Try.underlying24 hi hz0 hz1 hz2 rfl (by decide) _ _ _ rfl (OW1.out.alloc _) ⟨w1.heap.size, 0, none⟩ 1 1 [.int .i64 (qn : Int)] rfl rfl ?_ ?_ ?_ ?_ ?_ ?_)
          · intro j u hu
            match j, hu with
            | 0, hu => (simp at hu; subst hu; have := (made (w := (w1.setCell ⟨pg, qn, none⟩ (.int .i64 (sv + 1)))) (cs := #[.int .i64 (qn : Int)]) (e := 2) rfl).2.1 0 _ rfl; simpa [Addr.add] using this)
          · intro u hu; simp at hu; subst hu; rfl
          · unfold maxLen; omega
          · omega
          · simp; omega
          intro ad' c' w4 hown4 hg4 hn4
          replace hg4 : ((w1.setCell ⟨pg, qn, none⟩ (.int .i64 (sv + 1))).alloc (.cells #[.int .i64 (qn : Int)] 2)).grownBy w4 (Value.slice ta T.length tc).ownBlock := hg4
          have hst := ST1.out
          rw [HM.out] at hst
          have ST4 := Lib.hid (LapStK.next hst SN1.out (by simp) BL1.out GO1.out HQK.out (bdL_set (bdL_mono hst.bp (by omega)) _ (by omega) (by have := HM.out; omega)) (bdL_mono hst.bs (by omega)) (by simp; exact hst.lp) hst.ls hg4 (fun k hk => (hn4 k hk).imp id (fun h => by simpa using h)) OW1.out hown4)
          have FL4 := Lib.hid (Fld.next (wr := w1) FLS.out (by simp; exact hst.sn.lt) hg4 (fun e => (hst.ap _ e).1 rfl))
          have SW4 := Lib.hid ((SWS.out.below (below_alloc1 _ (.cells #[.int .i64 (qn : Int)] 2))).grown hg4 (fun e => (hst.ap _ e).1 rfl))
          have x15 := SW4.out.c14
          have fz4 := FL4.out.fz
          clear hst hown4 hg4 hn4
          go_wp2
          go_roundw
          case rel => exact ⟨m, (qn : Int), sv, _, _, T ++ [(qn : Int)], ad', c', by rw [HM2.out], rfl, rfl, ST4.out.fld 14 _ (by omega), FL4.out.off _ (by omega) (by omega), by simpa using SW4.out.path (ta' := ad') (tn' := T.length + 1) (tc' := c'), BF4.out⟩
          case measure => (have hm9 := HM.out; simp [intOf]; omega)
      · rw [hk] at c3
        clear hk
        have x14 := SW1.out.c14
        have x0 := ST1.out.sn.c0
        by_cases hqm : st = -1
        · subst hqm
          have hs := ST1.out
          have hl2 : pn < S.length := by rw [hs.ls]; omega
          obtain ⟨sv, hsv⟩ : ∃ sv, sv = S[pn] := ⟨_, rfl⟩
          have hb0 : 0 ≤ sv ∧ sv ≤ 2000000 - n := by rw [hsv]; exact bdL_get hs.bs hl2
          obtain ⟨hb0, hb1⟩ := hb0
          have kc : w1.cell? ⟨sg, pn, none⟩ = some (.int .i64 sv) := by rw [hs.sn.os.cellAt pn (by omega), hsv]; simp [hl2]
          have kf := hs.sn.os.frozenAt pn
          have kn : ¬ sb = sg := fun e => hs.sn.n3 e.symm
          have kn2 : ¬ sg = sb := hs.sn.n3
          have SN1 := Lib.hid (hs.sn.sto pn (sv + 1))
          have OW1 := Lib.hid (show OwnI (w1.setCell ⟨sg, pn, none⟩ (.int .i64 (sv + 1))) base ta tc T from ownsRow_setCell_other hs.ow (fun e => (hs.ap _ e).2.2 rfl) _)
          have FLS := Lib.hid (FL1.out.other (g := sg) (i := pn) kn (.int .i64 (sv + 1)))
          have SWS := Lib.hid (SW1.out.other (g := sg) (i := pn) kn (.int .i64 (sv + 1)))
          have BL1 := Lib.hid (hs.bl.setCell (g := sg) (i := pn) (own_head hs.sn.os).1 hs.nk.2.2 (.int .i64 (sv + 1)))
          have hbs0 : base ≤ w1.heap.size := Nat.le_trans hs.sn.nb0 (Nat.le_of_lt hs.sn.lt)
          have GO1 : Hid (lapGo r pn fn m (-1) P (S.set pn (sv + 1)) (T ++ [-1]) = lapP r pn fn pits stores path) := by
            have := hgo.out
            rw [if_pos rfl, bump_eq hl2, ← hsv] at this
            exact this.symm
          have BF4 : Hid (BF (-1) bf P) := ⟨HBF.out.1, fun h => by omega⟩
          clear hs hsv
          go_wp2
          go_still_tail 13, (by kernel_rfl)
          change wpList _ _ _ _ _ w1.drew
          go_wp2_with (at_builtin; refine wpList_append_own2 _ rfl _ _ 24 rfl base 2 i0 (.int .i64 0) 1 8 Try.underlying24 hi hz0 hz1 hz2 rfl (by decide) _ _ _ rfl (World.ownsRow.drew (OW1.out.alloc _)) ⟨w1.heap.size, 0, none⟩ 1 1 [.int .i64 (-1)] rfl rfl ?_ ?_ ?_ ?_ ?_ ?_)
          · intro j u hu
            match j, hu with
            | 0, hu => (simp at hu; subst hu; have := (made (w := (w1.setCell ⟨sg, pn, none⟩ (.int .i64 (sv + 1)))) (cs := #[.int .i64 (-1)]) (e := 2) rfl).2.1 0 _ rfl; simpa [Addr.add] using this)
          · intro u hu; simp at hu; subst hu; rfl
          · unfold maxLen; omega
          · omega
          · simp; omega
          intro ad' c' w4 hown4 hg4 hn4
          replace hg4 : ((w1.setCell ⟨sg, pn, none⟩ (.int .i64 (sv + 1))).alloc (.cells #[.int .i64 (-1)] 2)).grownBy w4 (Value.slice ta T.length tc).ownBlock := grown_undrew hg4
          have hst := ST1.out
          rw [HM.out] at hst
          have ST4 := Lib.hid (LapStK.next hst SN1.out (by simp) BL1.out GO1.out (.inl rfl) (bdL_mono hst.bp (by omega)) (bdL_set (bdL_mono hst.bs (by omega)) _ (by omega) (by have := HM.out; omega)) hst.lp (by simp; exact hst.ls) hg4 (fun k hk => (hn4 k hk).imp id (fun h => by simpa using h)) OW1.out hown4)
          have FL4 := Lib.hid (Fld.next (wr := w1) FLS.out (by simp; exact hst.sn.lt) hg4 (fun e => (hst.ap _ e).1 rfl))
          have SW4 := Lib.hid ((SWS.out.below (below_alloc1 _ (.cells #[.int .i64 (-1)] 2))).grown hg4 (fun e => (hst.ap _ e).1 rfl))
          have x15 := SW4.out.c14
          have fz4 := FL4.out.fz
          clear hst hown4 hg4 hn4
          go_wp2
          go_roundw
          case rel => exact ⟨m, (-1), bf, _, _, T ++ [(-1)], ad', c', by rw [HM2.out], rfl, rfl, ST4.out.fld 14 _ (by omega), FL4.out.off _ (by omega) (by omega), by simpa using SW4.out.path (ta' := ad') (tn' := T.length + 1) (tc' := c'), BF4.out⟩
          case measure => (have hm9 := HM.out; simp [intOf]; omega)
        · obtain ⟨qn, rfl⟩ : ∃ qn : Nat, st = qn := ⟨st.toNat, by rcases hqk with h | h <;> omega⟩
          have hs := ST1.out
          have hqr : qn < P.length := by
            rcases hqk with h | h
            · exact absurd h hqm
            · have := hs.lp; omega
          have hqmb : ((qn : Int) == -1) = false := by simpa using hqm
          have HQM := Lib.hid hqm
          have HQK := Lib.hid hqk
          clear hqm hqk
          obtain ⟨sv, hsv⟩ : ∃ sv, sv = P[qn] := ⟨_, rfl⟩
          have hb0 : 0 ≤ sv ∧ sv ≤ 2000000 - n := by rw [hsv]; exact bdL_get hs.bp hqr
          obtain ⟨hb0, hb1⟩ := hb0
          have kc : w1.cell? ⟨pg, qn, none⟩ = some (.int .i64 sv) := by rw [hs.sn.op.cellAt qn (by omega), hsv]; simp [hqr]
          have kf := hs.sn.op.frozenAt qn
          have kn : ¬ sb = pg := fun e => hs.sn.n2 e.symm
          have kn2 : ¬ pg = sb := hs.sn.n2
          have SN1 := Lib.hid (hs.sn.pit qn (sv + 1))
          have OW1 := Lib.hid (show OwnI (w1.setCell ⟨pg, qn, none⟩ (.int .i64 (sv + 1))) base ta tc T from ownsRow_setCell_other hs.ow (fun e => (hs.ap _ e).2.1 rfl) _)
          have FLS := Lib.hid (FL1.out.other (g := pg) (i := qn) kn (.int .i64 (sv + 1)))
          have SWS := Lib.hid (SW1.out.other (g := pg) (i := qn) kn (.int .i64 (sv + 1)))
          have BL1 := Lib.hid (hs.bl.setCell (g := pg) (i := qn) (own_head hs.sn.op).1 hs.nk.2.1 (.int .i64 (sv + 1)))
          have hbs0 : base ≤ w1.heap.size := Nat.le_trans hs.sn.nb0 (Nat.le_of_lt hs.sn.lt)
          have GO1 : Hid (lapGo r pn fn m qn (P.set qn (sv + 1)) S (T ++ [(qn : Int)]) = lapP r pn fn pits stores path) := by
            have := hgo.out
            rw [if_neg HQM.out, bump_eq hqr, ← hsv] at this
            exact this.symm
          have BF4 : Hid (BF qn sv (P.set qn (sv + 1))) := ⟨⟨hb0, by omega⟩, fun _ => by simp [hqr]; omega⟩
          clear hs hsv
          go_wp2_with (at_builtin; refine wpList_append_own2 _ rfl _ _ 24 rfl base 2 i0 (.int .i64 0) 1 8 Try.underlying24 hi hz0 hz1 hz2 rfl (by decide) _ _ _ rfl (OW1.out.alloc _) ⟨w1.heap.size, 0, none⟩ 1 1 [.int .i64 (qn : Int)] rfl rfl ?_ ?_ ?_ ?_ ?_ ?_)
          · intro j u hu
            match j, hu with
            | 0, hu => (simp at hu; subst hu; have := (made (w := (w1.setCell ⟨pg, qn, none⟩ (.int .i64 (sv + 1)))) (cs := #[.int .i64 (qn : Int)]) (e := 2) rfl).2.1 0 _ rfl; simpa [Addr.add] using this)
          · intro u hu; simp at hu; subst hu; rfl
          · unfold maxLen; omega
          · omega
          · simp; omega
          intro ad' c' w4 hown4 hg4 hn4
          replace hg4 : ((w1.setCell ⟨pg, qn, none⟩ (.int .i64 (sv + 1))).alloc (.cells #[.int .i64 (qn : Int)] 2)).grownBy w4 (Value.slice ta T.length tc).ownBlock := hg4
          have hst := ST1.out
          rw [HM.out] at hst
          have ST4 := Lib.hid (LapStK.next hst SN1.out (by simp) BL1.out GO1.out HQK.out (bdL_set (bdL_mono hst.bp (by omega)) _ (by omega) (by have := HM.out; omega)) (bdL_mono hst.bs (by omega)) (by simp; exact hst.lp) hst.ls hg4 (fun k hk => (hn4 k hk).imp id (fun h => by simpa using h)) OW1.out hown4)
          have FL4 := Lib.hid (Fld.next (wr := w1) FLS.out (by simp; exact hst.sn.lt) hg4 (fun e => (hst.ap _ e).1 rfl))
          have SW4 := Lib.hid ((SWS.out.below (below_alloc1 _ (.cells #[.int .i64 (qn : Int)] 2))).grown hg4 (fun e => (hst.ap _ e).1 rfl))
          have x15 := SW4.out.c14
          have fz4 := FL4.out.fz
          clear hst hown4 hg4 hn4
          go_wp2
          go_roundw
          case rel => exact ⟨m, (qn : Int), sv, _, _, T ++ [(qn : Int)], ad', c', by rw [HM2.out], rfl, rfl, ST4.out.fld 14 _ (by omega), FL4.out.off _ (by omega) (by omega), by simpa using SW4.out.path (ta' := ad') (tn' := T.length + 1) (tc' := c'), BF4.out⟩
          case measure => (have hm9 := HM.out; simp [intOf]; omega)
      · rw [hk] at c3
        have hsb1 : sb < w1.heap.size := ST1.out.sn.lt
        have hqk := hqk2
        have e9 := SW1.out.c9
        have e14 := SW1.out.c14
        have e0 := ST1.out.sn.c0
        have e1 := ST1.out.sn.c1
        simp only [Nat.reduceAdd] at e1
        have hn3 := HN2.out
        simp only [R.val, R.cells, hk] at hn3
        have HN3 := Lib.hid hn3
        clear hk hn3
        go_wp2_with fail
        go_region_held3 (fun w' => ∀ o, w'.cell? ⟨sb, o, none⟩ = w1.cell? ⟨sb, o, none⟩) (first | exact hcB | (intro o; rfl))
          (first | (go_at_call 159; refine (HN3.out _).mono ?_; rintro e w2 ⟨rfl, hb2⟩; have hcB : ∀ o, w2.cell? ⟨sb, o, none⟩ = w1.cell? ⟨sb, o, none⟩ := fun o => (bcell hb2).1 sb o hsb1))
        have ST2 := Lib.hid ((ST1.out.below (Below.refl _ _).drew).below hb2)
        have FL2 := Lib.hid ((FL1.out.below (Below.refl _ _).drew).below hb2)
        have SW2 := Lib.hid ((SW1.out.below (Below.refl _ _).drew).below hb2)
        have hfz2 : ∀ o, w2.frozen? ⟨sb, o, none⟩ = false := FL2.out.fz
        clear hcB hb2 ST1 FL1 SW1 HN2 HN3 hfz1
        have x14 := SW2.out.c14
        have x0 := ST2.out.sn.c0
        by_cases hqm : st = -1
        · subst hqm
          have hs := ST2.out
          have hl2 : pn < S.length := by rw [hs.ls]; omega
          obtain ⟨sv, hsv⟩ : ∃ sv, sv = S[pn] := ⟨_, rfl⟩
          have hb0 : 0 ≤ sv ∧ sv ≤ 2000000 - n := by rw [hsv]; exact bdL_get hs.bs hl2
          obtain ⟨hb0, hb1⟩ := hb0
          have kc : w2.cell? ⟨sg, pn, none⟩ = some (.int .i64 sv) := by rw [hs.sn.os.cellAt pn (by omega), hsv]; simp [hl2]
          have kf := hs.sn.os.frozenAt pn
          have kn : ¬ sb = sg := fun e => hs.sn.n3 e.symm
          have kn2 : ¬ sg = sb := hs.sn.n3
          have SN1 := Lib.hid (hs.sn.sto pn (sv + 1))
          have OW1 := Lib.hid (show OwnI (w2.setCell ⟨sg, pn, none⟩ (.int .i64 (sv + 1))) base ta tc T from ownsRow_setCell_other hs.ow (fun e => (hs.ap _ e).2.2 rfl) _)
          have FLS := Lib.hid (FL2.out.other (g := sg) (i := pn) kn (.int .i64 (sv + 1)))
          have SWS := Lib.hid (SW2.out.other (g := sg) (i := pn) kn (.int .i64 (sv + 1)))
          have BL1 := Lib.hid (hs.bl.setCell (g := sg) (i := pn) (own_head hs.sn.os).1 hs.nk.2.2 (.int .i64 (sv + 1)))
          have hbs0 : base ≤ w2.heap.size := Nat.le_trans hs.sn.nb0 (Nat.le_of_lt hs.sn.lt)
          have GO1 : Hid (lapGo r pn fn m (-1) P (S.set pn (sv + 1)) (T ++ [-1]) = lapP r pn fn pits stores path) := by
            have := hgo.out
            rw [if_pos rfl, bump_eq hl2, ← hsv] at this
            exact this.symm
          have BF4 : Hid (BF (-1) bf P) := ⟨HBF.out.1, fun h => by omega⟩
          clear hs hsv
          go_wp2
          go_still_tail 13, (by kernel_rfl)
          change wpList _ _ _ _ _ w2.drew
          go_wp2_with (at_builtin; refine wpList_append_own2 _ rfl _ _ 24 rfl base 2 i0 (.int .i64 0) 1 8 Try.underlying24 hi hz0 hz1 hz2 rfl (by decide) _ _ _ rfl (World.ownsRow.drew (OW1.out.alloc _)) ⟨w2.heap.size, 0, none⟩ 1 1 [.int .i64 (-1)] rfl rfl ?_ ?_ ?_ ?_ ?_ ?_)
          · intro j u hu
            match j, hu with
            | 0, hu => (simp at hu; subst hu; have := (made (w := (w2.setCell ⟨sg, pn, none⟩ (.int .i64 (sv + 1)))) (cs := #[.int .i64 (-1)]) (e := 2) rfl).2.1 0 _ rfl; simpa [Addr.add] using this)
          · intro u hu; simp at hu; subst hu; rfl
          · unfold maxLen; omega
          · omega
          · simp; omega
          intro ad' c' w4 hown4 hg4 hn4
          replace hg4 : ((w2.setCell ⟨sg, pn, none⟩ (.int .i64 (sv + 1))).alloc (.cells #[.int .i64 (-1)] 2)).grownBy w4 (Value.slice ta T.length tc).ownBlock := grown_undrew hg4
          have hst := ST2.out
          rw [HM.out] at hst
          have ST4 := Lib.hid (LapStK.next hst SN1.out (by simp) BL1.out GO1.out (.inl rfl) (bdL_mono hst.bp (by omega)) (bdL_set (bdL_mono hst.bs (by omega)) _ (by omega) (by have := HM.out; omega)) hst.lp (by simp; exact hst.ls) hg4 (fun k hk => (hn4 k hk).imp id (fun h => by simpa using h)) OW1.out hown4)
          have FL4 := Lib.hid (Fld.next (wr := w2) FLS.out (by simp; exact hst.sn.lt) hg4 (fun e => (hst.ap _ e).1 rfl))
          have SW4 := Lib.hid ((SWS.out.below (below_alloc1 _ (.cells #[.int .i64 (-1)] 2))).grown hg4 (fun e => (hst.ap _ e).1 rfl))
          have x15 := SW4.out.c14
          have fz4 := FL4.out.fz
          clear hst hown4 hg4 hn4
          go_wp2
          go_roundw
          case rel => exact ⟨m, (-1), bf, _, _, T ++ [(-1)], ad', c', by rw [HM2.out], rfl, rfl, ST4.out.fld 14 _ (by omega), FL4.out.off _ (by omega) (by omega), by simpa using SW4.out.path (ta' := ad') (tn' := T.length + 1) (tc' := c'), BF4.out⟩
          case measure => (have hm9 := HM.out; simp [intOf]; omega)
        · obtain ⟨qn, rfl⟩ : ∃ qn : Nat, st = qn := ⟨st.toNat, by rcases hqk with h | h <;> omega⟩
          have hs := ST2.out
          have hqr : qn < P.length := by
            rcases hqk with h | h
            · exact absurd h hqm
            · have := hs.lp; omega
          have hqmb : ((qn : Int) == -1) = false := by simpa using hqm
          have HQM := Lib.hid hqm
          have HQK := Lib.hid hqk
          clear hqm hqk
          obtain ⟨sv, hsv⟩ : ∃ sv, sv = P[qn] := ⟨_, rfl⟩
          have hb0 : 0 ≤ sv ∧ sv ≤ 2000000 - n := by rw [hsv]; exact bdL_get hs.bp hqr
          obtain ⟨hb0, hb1⟩ := hb0
          have kc : w2.cell? ⟨pg, qn, none⟩ = some (.int .i64 sv) := by rw [hs.sn.op.cellAt qn (by omega), hsv]; simp [hqr]
          have kf := hs.sn.op.frozenAt qn
          have kn : ¬ sb = pg := fun e => hs.sn.n2 e.symm
          have kn2 : ¬ pg = sb := hs.sn.n2
          have SN1 := Lib.hid (hs.sn.pit qn (sv + 1))
          have OW1 := Lib.hid (show OwnI (w2.setCell ⟨pg, qn, none⟩ (.int .i64 (sv + 1))) base ta tc T from ownsRow_setCell_other hs.ow (fun e => (hs.ap _ e).2.1 rfl) _)
          have FLS := Lib.hid (FL2.out.other (g := pg) (i := qn) kn (.int .i64 (sv + 1)))
          have SWS := Lib.hid (SW2.out.other (g := pg) (i := qn) kn (.int .i64 (sv + 1)))
          have BL1 := Lib.hid (hs.bl.setCell (g := pg) (i := qn) (own_head hs.sn.op).1 hs.nk.2.1 (.int .i64 (sv + 1)))
          have hbs0 : base ≤ w2.heap.size := Nat.le_trans hs.sn.nb0 (Nat.le_of_lt hs.sn.lt)
          have GO1 : Hid (lapGo r pn fn m qn (P.set qn (sv + 1)) S (T ++ [(qn : Int)]) = lapP r pn fn pits stores path) := by
            have := hgo.out
            rw [if_neg HQM.out, bump_eq hqr, ← hsv] at this
            exact this.symm
          have BF4 : Hid (BF qn sv (P.set qn (sv + 1))) := ⟨⟨hb0, by omega⟩, fun _ => by simp [hqr]; omega⟩
          clear hs hsv
          go_wp2_with (at_builtin; refine wpList_append_own2 _ rfl _ _ 24 rfl base 2 i0 (.int .i64 0) 1 8 Try.underlying24 hi hz0 hz1 hz2 rfl (by decide) _ _ _ rfl (OW1.out.alloc _) ⟨w2.heap.size, 0, none⟩ 1 1 [.int .i64 (qn : Int)] rfl rfl ?_ ?_ ?_ ?_ ?_ ?_)
          · intro j u hu
            match j, hu with
            | 0, hu => (simp at hu; subst hu; have := (made (w := (w2.setCell ⟨pg, qn, none⟩ (.int .i64 (sv + 1)))) (cs := #[.int .i64 (qn : Int)]) (e := 2) rfl).2.1 0 _ rfl; simpa [Addr.add] using this)
          · intro u hu; simp at hu; subst hu; rfl
          · unfold maxLen; omega
          · omega
          · simp; omega
          intro ad' c' w4 hown4 hg4 hn4
          replace hg4 : ((w2.setCell ⟨pg, qn, none⟩ (.int .i64 (sv + 1))).alloc (.cells #[.int .i64 (qn : Int)] 2)).grownBy w4 (Value.slice ta T.length tc).ownBlock := hg4
          have hst := ST2.out
          rw [HM.out] at hst
          have ST4 := Lib.hid (LapStK.next hst SN1.out (by simp) BL1.out GO1.out HQK.out (bdL_set (bdL_mono hst.bp (by omega)) _ (by omega) (by have := HM.out; omega)) (bdL_mono hst.bs (by omega)) (by simp; exact hst.lp) hst.ls hg4 (fun k hk => (hn4 k hk).imp id (fun h => by simpa using h)) OW1.out hown4)
          have FL4 := Lib.hid (Fld.next (wr := w2) FLS.out (by simp; exact hst.sn.lt) hg4 (fun e => (hst.ap _ e).1 rfl))
          have SW4 := Lib.hid ((SWS.out.below (below_alloc1 _ (.cells #[.int .i64 (qn : Int)] 2))).grown hg4 (fun e => (hst.ap _ e).1 rfl))
          have x15 := SW4.out.c14
          have fz4 := FL4.out.fz
          clear hst hown4 hg4 hn4
          go_wp2
          go_roundw
          case rel => exact ⟨m, (qn : Int), sv, _, _, T ++ [(qn : Int)], ad', c', by rw [HM2.out], rfl, rfl, ST4.out.fld 14 _ (by omega), FL4.out.off _ (by omega) (by omega), by simpa using SW4.out.path (ta' := ad') (tn' := T.length + 1) (tc' := c'), BF4.out⟩
          case measure => (have hm9 := HM.out; simp [intOf]; omega)

end Go.Proofs.Ytbjgigdkbjabaaa
