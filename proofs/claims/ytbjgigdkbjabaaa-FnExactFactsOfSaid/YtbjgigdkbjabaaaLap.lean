/- Lap: a lap is sown: the reference's function. The contract holds for every argument, under the premises that it states. -/
import Derived.Test.YtbjgigdkbjabaaaSow
import Derived.Test.YtbjgigdkbjabaaaFrame
import Derived.Test.YtbjgigdkbjabaaaCopy
import Derived.Outline
namespace Go.Proofs.Ytbjgigdkbjabaaa
set_option linter.unusedSimpArgs false
set_option linter.unusedVariables false
set_option linter.unnecessarySimpa false
open Go.RowKit Go.ChangeShapes Go.WideShapes Go.ChangeAt Go.Joins

/-- what is sown, in memory: the block of its fields and the rows of its pits and stores -/
structure SnI (base : Nat) (w : World) (nb no pg pc sg sc : Nat) (pits stores : List Int) : Prop where
  c0 : w.cell? ⟨nb, no, none⟩ = some (.slice (some ⟨pg, 0, none⟩) pits.length pc)
  c1 : w.cell? ⟨nb, no + 1, none⟩ = some (.slice (some ⟨sg, 0, none⟩) stores.length sc)
  op : OwnI w base (some ⟨pg, 0, none⟩) pc pits
  os : OwnI w base (some ⟨sg, 0, none⟩) sc stores
  nb0 : base ≤ nb
  n1 : ¬ pg = sg
  n2 : ¬ pg = nb
  n3 : ¬ sg = nb
theorem own_head {w : World} {base c : Nat} {g : Nat} {xs : List Int} (h : OwnI w base (some ⟨g, 0, none⟩) c xs) : base ≤ g ∧ g < w.heap.size := h.lt g rfl
theorem SnI.lt {base : Nat} {w : World} {nb no pg pc sg sc : Nat} {pits stores : List Int} (h : SnI base w nb no pg pc sg sc pits stores) : nb < w.heap.size := World.block_lt_of_cell? w _ h.c0
theorem SnI.grown {base : Nat} {w w' : World} {nb no pg pc sg sc : Nat} {pits stores : List Int} {row : Option Nat} (h : SnI base w nb no pg pc sg sc pits stores) (hg : w.grownBy w' row) (h1 : row ≠ some nb) (h2 : row ≠ some pg) (h3 : row ≠ some sg) :
    SnI base w' nb no pg pc sg sc pits stores :=
  ⟨cell_stab h.c0 (hg.block nb h.lt (fun e => h1 e.symm)), cell_stab h.c1 (hg.block nb h.lt (fun e => h1 e.symm)), h.op.kept hg (.inr (fun e => h2 e.symm)), h.os.kept hg (.inr (fun e => h3 e.symm)), h.nb0, h.n1, h.n2, h.n3⟩
theorem SnI.below {base : Nat} {w w' : World} {nb no pg pc sg sc : Nat} {pits stores : List Int} (h : SnI base w nb no pg pc sg sc pits stores) (hb : Below w.heap.size w w') : SnI base w' nb no pg pc sg sc pits stores :=
  h.grown (grown_below hb none) (by simp) (by simp) (by simp)
theorem SnI.pit {base : Nat} {w : World} {nb no pg pc sg sc : Nat} {pits stores : List Int} (h : SnI base w nb no pg pc sg sc pits stores) (i : Nat) (v : Int) : SnI base (w.setCell ⟨pg, i, none⟩ (.int .i64 v)) nb no pg pc sg sc (pits.set i v) stores := by
  have hst := h.op.stored i (.int .i64 v)
  refine ⟨?_, ?_, ?_, ?_, h.nb0, h.n1, h.n2, h.n3⟩
  · rw [cell_other (fun e => h.n2 e.symm), List.length_set]; exact h.c0
  · rw [cell_other (fun e => h.n2 e.symm)]; exact h.c1
  · have := hst.1
    rw [← List.map_set] at this
    simpa [OwnI] using this
  · exact h.os.kept hst.2 (.inr (fun e => by simp [Value.ownBlock] at e; exact h.n1 e.symm))
theorem SnI.sto {base : Nat} {w : World} {nb no pg pc sg sc : Nat} {pits stores : List Int} (h : SnI base w nb no pg pc sg sc pits stores) (i : Nat) (v : Int) : SnI base (w.setCell ⟨sg, i, none⟩ (.int .i64 v)) nb no pg pc sg sc pits (stores.set i v) := by
  have hst := h.os.stored i (.int .i64 v)
  refine ⟨?_, ?_, ?_, ?_, h.nb0, h.n1, h.n2, h.n3⟩
  · rw [cell_other (fun e => h.n3 e.symm)]; exact h.c0
  · rw [cell_other (fun e => h.n3 e.symm), List.length_set]; exact h.c1
  · exact h.op.kept hst.2 (.inr (fun e => by simp [Value.ownBlock] at e; exact h.n1 e))
  · have := hst.1
    rw [← List.map_set] at this
    simpa [OwnI] using this

/-- the path's row lies apart -/
def TAp (ta : Option Addr) (n tc : Nat) (nb pg sg : Nat) : Prop := ∀ k, (Value.slice ta n tc).ownBlock = some k → ¬ k = nb ∧ ¬ k = pg ∧ ¬ k = sg
def bdL (l : List Int) (m : Int) : Prop := ∀ n ∈ l, 0 ≤ n ∧ n ≤ m
theorem bdL_get {l : List Int} {m : Int} (h : bdL l m) {i : Nat} (hi : i < l.length) : 0 ≤ l[i] ∧ l[i] ≤ m := h _ (List.getElem_mem hi)
theorem bdL_mono {l : List Int} {m m' : Int} (h : bdL l m) (hm : m ≤ m') : bdL l m' := fun n hn => ⟨(h n hn).1, Int.le_trans (h n hn).2 hm⟩
theorem bdL_set {l : List Int} {m : Int} (h : bdL l m) (i : Nat) {v : Int} (h0 : 0 ≤ v) (h1 : v ≤ m) : bdL (l.set i v) m := fun n hn => by
  rcases List.mem_or_eq_of_mem_set hn with hn | rfl
  · exact h n hn
  · exact ⟨h0, h1⟩
theorem bump_eq {l : List Int} {i : Nat} (hi : i < l.length) : bump l (i : Int) = l.set i (l[i] + 1) := by simp [bump, hi]
theorem infoI' : (Try.prog.info? 2).map (fun i => (i.zero, i.size, i.bytes)) = some (some (.int .i64 0), 1, 8) := by kernel_rfl

theorem cell_off {w : World} {g o o' : Nat} {v : Value} (h : ¬ o' = o) : (w.setCell ⟨g, o, none⟩ v).cell? ⟨g, o', none⟩ = w.cell? ⟨g, o', none⟩ := by
  apply World.cell?_setCell_other
  intro e
  cases e
  exact h rfl
/-- the last place and the laps, in memory -/
structure Fld (w : World) (nb no : Nat) (last laps : Int) : Prop where
  c2 : w.cell? ⟨nb, no + 2, none⟩ = some (.int .i64 last)
  c3 : w.cell? ⟨nb, no + 3, none⟩ = some (.int .i64 laps)
  fz : ∀ o, w.frozen? ⟨nb, o, none⟩ = false
theorem Fld.grown {w w' : World} {nb no : Nat} {last laps : Int} {row : Option Nat} (h : Fld w nb no last laps) (hg : w.grownBy w' row) (h1 : row ≠ some nb) (hl : nb < w.heap.size) : Fld w' nb no last laps := by
  have e := hg.block nb hl (fun e => h1 e.symm)
  exact ⟨cell_stab h.c2 e, cell_stab h.c3 e, fun o => (World.frozen?_of_block (w := w) e).trans (h.fz o)⟩
theorem Fld.other {w : World} {nb no : Nat} {last laps : Int} (h : Fld w nb no last laps) {g i : Nat} (hg : ¬ nb = g) (v : Value) : Fld (w.setCell ⟨g, i, none⟩ v) nb no last laps :=
  ⟨(cell_other hg).trans h.c2, (cell_other hg).trans h.c3, fun o => by simpa using h.fz o⟩
theorem Fld.alloc {w : World} {nb no : Nat} {last laps : Int} (h : Fld w nb no last laps) (hl : nb < w.heap.size) (o : Obj) : Fld (w.alloc o) nb no last laps := h.grown (grown_below ((Below.refl _ _).alloc (Nat.le_refl _) o) none) (by simp) hl
theorem SnI.fld {base : Nat} {w : World} {nb no pg pc sg sc : Nat} {pits stores : List Int} (h : SnI base w nb no pg pc sg sc pits stores) (j : Nat) (v : Value) (hj : no + 2 ≤ j) : SnI base (w.setCell ⟨nb, j, none⟩ v) nb no pg pc sg sc pits stores := by
  have e : ∀ o, ¬ o = j → (w.setCell ⟨nb, j, none⟩ v).cell? ⟨nb, o, none⟩ = w.cell? ⟨nb, o, none⟩ := fun o ho => by
    apply World.cell?_setCell_other
    intro e
    cases e
    exact ho rfl
  refine ⟨?_, ?_, ?_, ?_, h.nb0, h.n1, h.n2, h.n3⟩
  · rw [e _ (by omega)]; exact h.c0
  · rw [e _ (by omega)]; exact h.c1
  · exact ownsRow_setCell_other h.op (fun e => by simp [Value.ownBlock] at e; exact h.n2 e) v
  · exact ownsRow_setCell_other h.os (fun e => by simp [Value.ownBlock] at e; exact h.n3 e) v
/-- a round of a lap -/
structure LapSt (base : Nat) (w wr : World) (nb no pg pc sg sc : Nat) (r : R) (pn fn : Nat) (L : Lap) (len : Nat) (n : Nat) (pl : Int) (P S T : List Int) (ta : Option Addr) (tc : Nat) : Prop where
  ok : PlaceOk r pl
  go : lapGo r pn fn n pl P S T = L
  n1 : n ≤ 1000000
  bp : bdL P (2000000 - n)
  bs : bdL S (2000000 - n)
  pt : T.length + n ≤ 1001000000
  lp : P.length = len
  ls : S.length = 2
  sn : SnI base wr nb no pg pc sg sc P S
  ow : OwnI wr base ta tc T
  ap : TAp ta T.length tc nb pg sg
  bl : Below base w wr

theorem LapSt.next {base : Nat} {w wr w1 w4 : World} {nb no pg pc sg sc : Nat} {r : R} {pn fn : Nat} {L : Lap} {len m : Nat} {pl q : Int} {P S T P' S' : List Int} {ta ad' : Option Addr} {tc c' : Nat} {cs : Array Value} {e : TypeId}
    (h : LapSt base w wr nb no pg pc sg sc r pn fn L len (m + 1) pl P S T ta tc) (hsn : SnI base w1 nb no pg pc sg sc P' S') (hsz : w1.heap.size = wr.heap.size) (hw1 : Below base w w1)
    (hgo : lapGo r pn fn m q P' S' (T ++ [q]) = L) (hq : PlaceOk r q) (bp' : bdL P' (2000000 - m)) (bs' : bdL S' (2000000 - m)) (lp' : P'.length = len) (ls' : S'.length = 2)
    (hg4 : (w1.alloc (.cells cs e)).grownBy w4 (Value.slice ta T.length tc).ownBlock) (hn4 : ∀ k, (Value.slice ad' (T.length + 1) c').ownBlock = some k → (Value.slice ta T.length tc).ownBlock = some k ∨ wr.heap.size + 1 ≤ k)
    (how : OwnI w1 base ta tc T) (hown4 : w4.ownsRow base 2 1 (.slice ad' (T.length + 1) c') (T.length + 1) (T.map (Value.int .i64) ++ [.int .i64 q])) :
    LapSt base w w4 nb no pg pc sg sc r pn fn L len m q P' S' (T ++ [q]) ad' c' := by
  have hnb := hsn.lt
  have hp := own_head hsn.op
  have hs := own_head hsn.os
  refine ⟨hq, hgo, by have := h.n1; omega, bp', bs', by have := h.pt; simp; omega, lp', ls', ?_, by simpa [OwnI] using hown4, ?_, ?_⟩
  · exact (hsn.below (below_alloc1 _ _)).grown hg4 (fun e => (h.ap _ e).1 rfl) (fun e => (h.ap _ e).2.1 rfl) (fun e => (h.ap _ e).2.2 rfl)
  · intro k hk
    simp only [List.length_append, List.length_cons, List.length_nil] at hk
    rcases hn4 k hk with h1 | h1
    · exact h.ap k h1
    · omega
  · exact (hw1.alloc (by have := hsn.nb0; omega) _).grown hg4 (by have := hsn.nb0; simp; omega) (fun k hk => (how.lt k hk).1)
theorem Fld.next {wr w1 w4 : World} {nb no : Nat} {last laps : Int} {row : Option Nat} {cs : Array Value} {e : TypeId} (h : Fld w1 nb no last laps) (hl : nb < w1.heap.size) (hg4 : (w1.alloc (.cells cs e)).grownBy w4 row) (hr : row ≠ some nb) : Fld w4 nb no last laps :=
  (h.alloc hl _).grown hg4 hr (by simp; omega)

theorem meas {c d : Prop} [Decidable c] [Decidable d] {n : Nat} (h : 0 < n) : (2 * (n - 1) + if c then 0 else 1) < 2 * n + if d then 0 else 1 := by
  split <;> split <;> omega

set_option maxRecDepth 100000 in
set_option maxHeartbeats 8000000 in
theorem l05Lap_c (base rb ro nb pg pc sg sc : Nat) (r : R) (hb : r.Bd) (pn fn : Nat) (pits stores path : List Int) (last laps : Int) (ta : Option Addr) (tc : Nat) (w : World)
    (hr : R.At w rb ro r) (hrb : rb < base) (hS : SnI base w nb 0 pg pc sg sc pits stores) (c2 : w.cell? ⟨nb, 2, none⟩ = some (.int .i64 last)) (c3 : w.cell? ⟨nb, 3, none⟩ = some (.int .i64 laps)) (hfz : ∀ o, w.frozen? ⟨nb, o, none⟩ = false)
    (hT : OwnI w base ta tc path) (hTA : TAp ta path.length tc nb pg sg) (hpn : pn ≤ 1) (hlen : (pits.length : Int) = 2 * r.pits) (hsl : stores.length = 2) (hfn : fn < pits.length)
    (hbp : bdL pits 1000000) (hbs : bdL stores 1000000) (hpa : path.length ≤ 1000000000) (hlp : 0 ≤ laps ∧ laps ≤ 1000) :
    Calls Try.prog 179 #[.pointer (some ⟨rb, ro, none⟩), .pointer (some ⟨nb, 0, none⟩), .int .i64 (pn : Int), .int .i64 (fn : Int), .slice ta path.length tc] w fun e w' => ∃ ta' tc',
      e = .returned (.slice ta' (lapP r pn fn pits stores path).path.length tc') ∧ SnI base w' nb 0 pg pc sg sc (lapP r pn fn pits stores path).pits (lapP r pn fn pits stores path).stores ∧
      w'.cell? ⟨nb, 2, none⟩ = some (.int .i64 (lapP r pn fn pits stores path).last) ∧ w'.cell? ⟨nb, 3, none⟩ = some (.int .i64 (laps + 1)) ∧ (∀ o, w'.frozen? ⟨nb, o, none⟩ = false) ∧
      OwnI w' base ta' tc' (lapP r pn fn pits stores path).path ∧ TAp ta' (lapP r pn fn pits stores path).path.length tc' nb pg sg ∧ Below base w w' := by
  obtain ⟨i0, hi, hz0, hz1, hz2⟩ := info_parts infoI
  obtain ⟨lo, hi8⟩ := hb
  obtain ⟨lp0, lp1⟩ := hlp
  have hf0 := bdL_get hbp hfn
  have hcf : w.cell? ⟨pg, fn, none⟩ = some (.int .i64 pits[fn]) := by rw [hS.op.cellAt fn (by omega)]; simp [hfn]
  have hff := hS.op.frozenAt fn
  have hS1 := Lib.hid (hS.pit fn 0)
  obtain ⟨d0, d1⟩ := (⟨hS.c0, hS.c1⟩ : _ ∧ _)
  have hb' : r.Bd := ⟨lo, hi8⟩
  obtain ⟨s0, hs0⟩ : ∃ s : Nat, pits[fn] = s := ⟨pits[fn].toNat, by omega⟩
  have hR := Lib.hid hr
  have hLt := Lib.hid hS.lt
  have hL : Hid (LapSt base w (w.setCell ⟨pg, fn, none⟩ (.int .i64 0)) nb 0 pg pc sg sc r pn fn (lapP r pn fn pits stores path) pits.length s0 fn (pits.set fn 0) stores path ta tc) := by
    refine ⟨.inr ⟨by omega, by omega⟩, ?_, by omega, bdL_set (bdL_mono hbp (by omega)) _ (by omega) (by omega), bdL_mono hbs (by omega), by omega, by simp, hsl, hS.pit fn 0, ?_, hTA, (Below.refl _ _).setCell (own_head hS.op).1 _⟩
    · unfold lapP
      have e1 : (pits.getD (fn : Int).toNat 0).toNat = s0 := by simp [hfn, hs0]
      rw [e1]
      simp
    · refine ownsRow_setCell_other hT (fun e => ?_) _
      exact (hTA _ e).2.1 rfl
  have HC : Hid ((∀ o, o = 2 ∨ o = 3 → (w.setCell ⟨pg, fn, none⟩ (.int .i64 0)).cell? ⟨nb, o, none⟩ = w.cell? ⟨nb, o, none⟩)) := fun o ho => cell_other (fun e => hS.n2 e.symm)
  clear hS hr hT hTA
  go_enter Try.func179, Try.ntmps179
  go_wp2
  go_loopw [4, 11, 12] (fun t s p wr => ∃ (n : Nat) (pl : Int) (P S T : List Int) (ta : Option Addr) (tc : Nat), t = .slice ta T.length tc ∧ s = .int .i64 n ∧ p = .int .i64 pl ∧ LapSt base w wr nb 0 pg pc sg sc r pn fn (lapP r pn fn pits stores path) pits.length n pl P S T ta tc ∧
      wr.cell? ⟨nb, 2, none⟩ = some (.int .i64 last) ∧ wr.cell? ⟨nb, 3, none⟩ = some (.int .i64 laps) ∧ (∀ o, wr.frozen? ⟨nb, o, none⟩ = false)) (fun _ s p _ => 2 * (intOf s).toNat + (if intOf p = fn then 0 else 1))
  case atStart => exact ⟨s0, fn, _, _, _, _, _, rfl, rfl, rfl, hL.out, (HC.out 2 (.inl rfl)).trans c2, (HC.out 3 (.inr rfl)).trans c3, fun o => by simpa using hfz o⟩
  case round =>
    clear hcf hff hS1 d0 d1 hL HC c2 c3 hfz
    obtain ⟨n, pl, P, S, T, ta, tc, rfl, rfl, rfl, hst, c2, c3, hfz⟩ := hrel
    have HST := Lib.hid hst
    by_cases h0 : n = 0
    · subst h0
      have HG := Lib.hid (show lapP r pn fn pits stores path = ⟨P, S, T, pl⟩ from hst.go.symm)
      clear hst
      go_wp2
      go_ret
      refine ⟨ta, tc, ?_⟩
      rw [HG.out]
      have hs := HST.out
      refine ⟨rfl, (hs.sn.fld 2 _ (by omega)).fld 3 _ (by omega), ?_, ?_, ?_, ?_, hs.ap, ?_⟩
      · rw [cell_off (by omega)]
        exact World.cell?_setCell_same _ _ _ c2
      · refine World.cell?_setCell_same _ _ (u := .int .i64 laps) _ ?_
        rw [cell_off (by omega)]
        exact c3
      · intro o; simpa using hfz o
      · exact ownsRow_setCell_other (ownsRow_setCell_other hs.ow (fun e => (hs.ap _ e).1 rfl) _) (fun e => (hs.ap _ e).1 rfl) _
      · exact (hs.bl.setCell hs.sn.nb0 _).setCell hs.sn.nb0 _
    · have hn0 : 0 < n := by omega
      have hnn := hst.n1
      have hlt := hst.pt
      have hpk := hst.ok
      obtain ⟨q, hq⟩ : ∃ q, q = nextP r pn pl := ⟨_, rfl⟩
      have hqk : PlaceOk r q := by rw [hq]; exact nextP_ok hb' _ _ ⟨by omega, by omega⟩ hpk
      have HNX : Hid (∀ W : World, R.At W rb ro r → Calls Try.prog 185 #[.pointer (some ⟨rb, ro, none⟩), .int .i64 pn, .int .i64 pl] W fun e w' => e = .returned (.int .i64 q) ∧ W = w') := fun W hW => by
        rw [hq]; exact l05Next_c rb ro r pn pl W hW hb' ⟨by omega, by omega⟩ hpk
      have hRw : R.At wr rb ro r := hR.out.below hst.bl hrb
      have hk3 := hRw.c3
      have HRW := Lib.hid hRw
      clear hRw
      by_cases hsk : r.skip = true ∧ q = fn
      · obtain ⟨hk, hqf⟩ := hsk
        have hne : ¬ pl = fn := fun e => nextP_ne hb' pn pl ⟨by omega, by omega⟩ hpk (by rw [← hq, hqf, e])
        have hgo : Hid (lapGo r pn fn n fn P S T = lapP r pn fn pits stores path) := by
          obtain ⟨m, rfl⟩ : ∃ m, n = m + 1 := ⟨n - 1, by omega⟩
          rw [← hst.go]
          exact (lapGo_from hb' pn fn pl ⟨by omega, by omega⟩ (.inr ⟨by omega, by omega⟩) ⟨hk, by rw [← hq, hqf]⟩ m P S T).symm
        have hqe : (q == (fn : Int)) = true := by simpa using hqf
        have HQF := Lib.hid hqf
        clear hq hqf hst
        go_wp2_with (go_at_call 185; refine (HNX.out _ HRW.out).mono ?_; rintro e w' ⟨rfl, rfl⟩)
        have hs := HST.out
        go_roundw
        case rel => exact ⟨n, fn, P, S, T, ta, tc, rfl, rfl, by rw [HQF.out], ⟨.inr ⟨by omega, by omega⟩, hgo.out, hs.n1, hs.bp, hs.bs, hs.pt, hs.lp, hs.ls, hs.sn, hs.ow, hs.ap, hs.bl⟩, c2, c3, hfz⟩
        case measure => (simp [intOf, HQF.out, hne])
      · obtain ⟨m, hm⟩ : ∃ m, n = m + 1 := ⟨n - 1, by omega⟩
        have hm2 : (n : Int) - 1 = m := by omega
        have HM := Lib.hid hm
        have HM2 := Lib.hid hm2
        have hstp : stepP r pn fn pl = q := by unfold stepP; rw [← hq, if_neg hsk]
        have hgo : Hid (lapP r pn fn pits stores path = if q = -1 then lapGo r pn fn m q P (bump S pn) (T ++ [q]) else lapGo r pn fn m q (bump P q) S (T ++ [q])) := by
          have h1 := hst.go
          rw [hm] at h1
          unfold Hid
          rw [← h1]
          simp only [lapGo, hstp]
        have hskw : r.skip = false ∨ (r.skip = true ∧ (q == (fn : Int)) = false) := by
          cases hk : r.skip
          · exact .inl rfl
          · exact .inr ⟨rfl, by have : ¬ q = fn := fun e => hsk ⟨hk, e⟩; simpa using this⟩
        have hF : Fld wr nb 0 last laps := ⟨c2, c3, hfz⟩
        have HFL := Lib.hid hF
        clear hq hst hm hm2 hstp hsk hF c2 c3 hfz
        by_cases hqm : q = -1
        · subst hqm
          have hs := HST.out
          have hl2 : pn < S.length := by rw [hs.ls]; omega
          obtain ⟨sv, hsv⟩ : ∃ sv, sv = S[pn] := ⟨_, rfl⟩
          have hb0 : 0 ≤ sv ∧ sv ≤ 2000000 - n := by rw [hsv]; exact bdL_get hs.bs hl2
          obtain ⟨hb0, hb1⟩ := hb0
          have kc : wr.cell? ⟨sg, pn, none⟩ = some (.int .i64 sv) := by rw [hs.sn.os.cellAt pn (by omega), hsv]; simp [hl2]
          have kf := hs.sn.os.frozenAt pn
          have k1 : wr.cell? ⟨nb, 1, none⟩ = some (.slice (some ⟨sg, 0, none⟩) S.length sc) := by simpa using hs.sn.c1
          have SN1 := Lib.hid (hs.sn.sto pn (sv + 1))
          have OW1 := Lib.hid (show OwnI (wr.setCell ⟨sg, pn, none⟩ (.int .i64 (sv + 1))) base ta tc T from ownsRow_setCell_other hs.ow (fun e => (hs.ap _ e).2.2 rfl) _)
          have FL1 := Lib.hid (HFL.out.other (g := sg) (i := pn) (fun e => hs.sn.n3 e.symm) (.int .i64 (sv + 1)))
          have BL1 := Lib.hid (hs.bl.setCell (p := ⟨sg, pn, none⟩) (own_head hs.sn.os).1 (.int .i64 (sv + 1)))
          have hbs0 : base ≤ wr.heap.size := Nat.le_trans hs.sn.nb0 (Nat.le_of_lt hs.sn.lt)
          have GO1 : Hid (lapGo r pn fn m (-1) P (S.set pn (sv + 1)) (T ++ [-1]) = lapP r pn fn pits stores path) := by
            have := hgo.out
            rw [if_pos rfl, bump_eq hl2, ← hsv] at this
            exact this.symm
          clear hs hsv
          rcases hskw with hk | ⟨hk, hqe⟩
          all_goals
            rw [hk] at hk3
            clear hk
            go_wp2_with (first | (go_at_call 185; refine (HNX.out _ HRW.out).mono ?_; rintro e w' ⟨rfl, rfl⟩) | (at_builtin; refine wpList_append_own2 _ rfl _ _ 24 rfl base 2 i0 (.int .i64 0) 1 8 Try.underlying24 hi hz0 hz1 hz2 rfl (by decide) _ _ _ rfl (OW1.out.alloc _) ⟨wr.heap.size, 0, none⟩ 1 1 [.int .i64 (-1)] rfl rfl ?_ ?_ ?_ ?_ ?_ ?_))
            · intro j u hu
              match j, hu with
              | 0, hu => (simp at hu; subst hu; have := (made (w := wr.setCell ⟨sg, pn, none⟩ (.int .i64 (sv + 1))) (cs := #[.int .i64 (-1)]) (e := 2) rfl).2.1 0 _ rfl; simpa [Addr.add] using this)
            · intro u hu; simp at hu; subst hu; rfl
            · unfold maxLen; omega
            · omega
            · simp; omega
            intro ad' c' w4 hown4 hg4 hn4
            have hst := HST.out
            rw [HM.out] at hst
            have ST4 := Lib.hid (LapSt.next hst SN1.out (by simp) BL1.out GO1.out (.inl rfl) (bdL_mono hst.bp (by omega)) (bdL_set (bdL_mono hst.bs (by omega)) _ (by omega) (by have := HM.out; omega)) hst.lp (by simp; exact hst.ls) hg4 hn4 OW1.out hown4)
            have FL4 := Lib.hid (Fld.next (wr := wr) FL1.out (by simp; exact hst.sn.lt) hg4 (fun e => (hst.ap _ e).1 rfl))
            clear hst hown4 hg4 hn4
            go_wp2
            go_roundw
            case rel => exact ⟨m, -1, P, _, _, ad', c', by simp, by rw [HM2.out], rfl, ST4.out, by simpa using FL4.out.c2, by simpa using FL4.out.c3, FL4.out.fz⟩
            case measure => (have hm9 := HM.out; simp [intOf]; first | omega | exact meas hn0)
        · obtain ⟨qn, rfl⟩ : ∃ qn : Nat, q = qn := ⟨q.toNat, by rcases hqk with h | h <;> omega⟩
          have hs := HST.out
          have hqr : qn < P.length := by
            rcases hqk with h | h
            · exact absurd h hqm
            · have := hs.lp; omega
          have hqmb : ((qn : Int) == -1) = false := by simpa using hqm
          have HQM := Lib.hid hqm
          have HQK := Lib.hid hqk
          clear hqm hqk
          obtain ⟨sv, hsv⟩ : ∃ sv, sv = P[qn] := ⟨_, rfl⟩
          have hb0 : 0 ≤ sv ∧ sv ≤ 2000000 - n := by rw [hsv]; exact bdL_get hs.bp hqr
          obtain ⟨hb0, hb1⟩ := hb0
          have kc : wr.cell? ⟨pg, qn, none⟩ = some (.int .i64 sv) := by rw [hs.sn.op.cellAt qn (by omega), hsv]; simp [hqr]
          have kf := hs.sn.op.frozenAt qn
          have k1 := hs.sn.c0
          have SN1 := Lib.hid (hs.sn.pit qn (sv + 1))
          have OW1 := Lib.hid (show OwnI (wr.setCell ⟨pg, qn, none⟩ (.int .i64 (sv + 1))) base ta tc T from ownsRow_setCell_other hs.ow (fun e => (hs.ap _ e).2.1 rfl) _)
          have FL1 := Lib.hid (HFL.out.other (g := pg) (i := qn) (fun e => hs.sn.n2 e.symm) (.int .i64 (sv + 1)))
          have BL1 := Lib.hid (hs.bl.setCell (p := ⟨pg, qn, none⟩) (own_head hs.sn.op).1 (.int .i64 (sv + 1)))
          have hbs0 : base ≤ wr.heap.size := Nat.le_trans hs.sn.nb0 (Nat.le_of_lt hs.sn.lt)
          have GO1 : Hid (lapGo r pn fn m qn (P.set qn (sv + 1)) S (T ++ [(qn : Int)]) = lapP r pn fn pits stores path) := by
            have := hgo.out
            rw [if_neg HQM.out, bump_eq hqr, ← hsv] at this
            exact this.symm
          clear hs hsv
          rcases hskw with hk | ⟨hk, hqe⟩
          all_goals
            rw [hk] at hk3
            clear hk
            go_wp2_with (first | (go_at_call 185; refine (HNX.out _ HRW.out).mono ?_; rintro e w' ⟨rfl, rfl⟩) | (at_builtin; refine wpList_append_own2 _ rfl _ _ 24 rfl base 2 i0 (.int .i64 0) 1 8 Try.underlying24 hi hz0 hz1 hz2 rfl (by decide) _ _ _ rfl (OW1.out.alloc _) ⟨wr.heap.size, 0, none⟩ 1 1 [.int .i64 (qn : Int)] rfl rfl ?_ ?_ ?_ ?_ ?_ ?_))
            · intro j u hu
              match j, hu with
              | 0, hu => (simp at hu; subst hu; have := (made (w := wr.setCell ⟨pg, qn, none⟩ (.int .i64 (sv + 1))) (cs := #[.int .i64 (qn : Int)]) (e := 2) rfl).2.1 0 _ rfl; simpa [Addr.add] using this)
            · intro u hu; simp at hu; subst hu; rfl
            · unfold maxLen; omega
            · omega
            · simp; omega
            intro ad' c' w4 hown4 hg4 hn4
            have hst := HST.out
            rw [HM.out] at hst
            have ST4 := Lib.hid (LapSt.next hst SN1.out (by simp) BL1.out GO1.out HQK.out (bdL_set (bdL_mono hst.bp (by omega)) _ (by omega) (by have := HM.out; omega)) (bdL_mono hst.bs (by omega)) (by simp; exact hst.lp) hst.ls hg4 hn4 OW1.out hown4)
            have FL4 := Lib.hid (Fld.next (wr := wr) FL1.out (by simp; exact hst.sn.lt) hg4 (fun e => (hst.ap _ e).1 rfl))
            clear hst hown4 hg4 hn4
            go_wp2
            go_roundw
            case rel => exact ⟨m, qn, _, S, _, ad', c', by simp, by rw [HM2.out], rfl, ST4.out, by simpa using FL4.out.c2, by simpa using FL4.out.c3, FL4.out.fz⟩
            case measure => (have hm9 := HM.out; simp [intOf]; first | omega | exact meas hn0)

end Go.Proofs.Ytbjgigdkbjabaaa
