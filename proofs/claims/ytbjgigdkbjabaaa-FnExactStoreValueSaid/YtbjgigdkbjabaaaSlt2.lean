/- Slt2: lists of slots, and memories: the law's own functions that copy and compare them. Each contract holds for every argument, under the premises that it states. -/
import Derived.Test.YtbjgigdkbjabaaaSlt
namespace Go.Proofs.Ytbjgigdkbjabaaa
set_option linter.unusedSimpArgs false
set_option linter.unusedVariables false
set_option linter.unnecessarySimpa false
open Go.RowKit Go.ChangeShapes Go.WideShapes Go.ChangeAt Go.Joins

def slNil : Sl × SA := (Sl.nil, ⟨none, 0⟩)
/-- item j gets all its cells -/
theorem own_put {w : World} {base c g : Nat} {l : List (Sl × SA)} (h : w.ownsRow base 113 6 (.slice (some ⟨g, 0, none⟩) l.length c) l.length (flat slRL.f l)) {j : Nat} (hj : j < l.length) (y : Sl) (A : SA) :
    (((((((w.setCell ⟨g, j * 6, none⟩ (.bool y.used)).setCell ⟨g, j * 6 + 1, none⟩ (.slice A.qa y.pits.length A.qc)).setCell ⟨g, j * 6 + 2, none⟩ (.int .i64 y.player)).setCell ⟨g, j * 6 + 3, none⟩ (.int .i64 y.depth)).setCell ⟨g, j * 6 + 4, none⟩ (.int .i64 y.value)).setCell ⟨g, j * 6 + 5, none⟩ (.int .i64 y.bound)).ownsRow base 113 6 (.slice (some ⟨g, 0, none⟩) l.length c) l.length (flat slRL.f (l.set j (y, A)))) ∧
    w.grownBy ((((((w.setCell ⟨g, j * 6, none⟩ (.bool y.used)).setCell ⟨g, j * 6 + 1, none⟩ (.slice A.qa y.pits.length A.qc)).setCell ⟨g, j * 6 + 2, none⟩ (.int .i64 y.player)).setCell ⟨g, j * 6 + 3, none⟩ (.int .i64 y.depth)).setCell ⟨g, j * 6 + 4, none⟩ (.int .i64 y.value)).setCell ⟨g, j * 6 + 5, none⟩ (.int .i64 y.bound)) (Value.slice (some ⟨g, 0, none⟩) l.length c).ownBlock := by
  obtain ⟨x, hx⟩ : ∃ x, l[j]? = some x := ⟨l[j], by simp [hj]⟩
  have e (l' : List (Sl × SA)) (hl : l'.length = l.length) (z : Sl × SA) (hz : l'[j]? = some z) (i : Nat) (hi : i < 6) (v : Value) (z' : Sl × SA) (hv : slRL.f z' = (slRL.f z).set i v) (W : World)
      (hW : W.ownsRow base 113 6 (.slice (some ⟨g, 0, none⟩) l.length c) l.length (flat slRL.f l')) :
      (W.setCell ⟨g, j * 6 + i, none⟩ v).ownsRow base 113 6 (.slice (some ⟨g, 0, none⟩) l.length c) l.length (flat slRL.f (l'.set j z')) ∧ W.grownBy (W.setCell ⟨g, j * 6 + i, none⟩ v) (Value.slice (some ⟨g, 0, none⟩) l.length c).ownBlock ∧ (l'.set j z')[j]? = some z' ∧ (l'.set j z').length = l.length := by
    obtain ⟨o1, o2⟩ := hW.stored (j * 6 + i) v
    rw [show j * 6 + i = j * slRL.n + i from rfl, flat_set slRL.hf hz hi hv] at o1
    exact ⟨o1, o2, List.getElem?_set_self (by omega), by rw [List.length_set, hl]⟩
  obtain ⟨o1, g1, z1, n1⟩ := e l rfl x hx 0 (by omega) (.bool y.used) (⟨y.used, x.1.pits, x.1.player, x.1.depth, x.1.value, x.1.bound⟩, x.2) rfl w h
  obtain ⟨o2, g2, z2, n2⟩ := e _ n1 _ z1 1 (by omega) (.slice A.qa y.pits.length A.qc) (⟨y.used, y.pits, x.1.player, x.1.depth, x.1.value, x.1.bound⟩, A) rfl _ o1
  obtain ⟨o3, g3, z3, n3⟩ := e _ n2 _ z2 2 (by omega) (.int .i64 y.player) (⟨y.used, y.pits, y.player, x.1.depth, x.1.value, x.1.bound⟩, A) rfl _ o2
  obtain ⟨o4, g4, z4, n4⟩ := e _ n3 _ z3 3 (by omega) (.int .i64 y.depth) (⟨y.used, y.pits, y.player, y.depth, x.1.value, x.1.bound⟩, A) rfl _ o3
  obtain ⟨o5, g5, z5, n5⟩ := e _ n4 _ z4 4 (by omega) (.int .i64 y.value) (⟨y.used, y.pits, y.player, y.depth, y.value, x.1.bound⟩, A) rfl _ o4
  obtain ⟨o6, g6, z6, n6⟩ := e _ n5 _ z5 5 (by omega) (.int .i64 y.bound) (y, A) rfl _ o5
  simp only [List.set_set] at o6
  exact ⟨o6, grown_trans (grown_trans (grown_trans (grown_trans (grown_trans g1 g2) g3) g4) g5) g6⟩
theorem Pcs.lts {w : World} {base : Nat} {qs : List Pc} (h : Pcs w base qs) : ∀ q ∈ qs, ∀ k, q.v.ownBlock = some k → k < w.heap.size := fun q hq k hk => ((h.all q hq).lt k hk).2
theorem pcs_below {w w' : World} {base : Nat} {qs : List Pc} (h : Pcs w base qs) (hb : Below w.heap.size w w') : Pcs w' base qs := ⟨fun q hq => own_below (h.all q hq) hb (Nat.le_refl _), h.sep⟩
/-- item j is stored whole, with a row that is new -/
theorem pcs_put {w w2 : World} {base c g : Nat} {l : List (Sl × SA)} (h : Pcs w base (slRL.pcs (some ⟨g, 0, none⟩) c l)) (hb : Below w.heap.size w w2) {j : Nat} (hj : j < l.length) (y : Sl) (A : SA) (ho : OwnI w2 w.heap.size A.qa A.qc y.pits) :
    Pcs ((((((w2.setCell ⟨g, j * 6, none⟩ (.bool y.used)).setCell ⟨g, j * 6 + 1, none⟩ (.slice A.qa y.pits.length A.qc)).setCell ⟨g, j * 6 + 2, none⟩ (.int .i64 y.player)).setCell ⟨g, j * 6 + 3, none⟩ (.int .i64 y.depth)).setCell ⟨g, j * 6 + 4, none⟩ (.int .i64 y.value)).setCell ⟨g, j * 6 + 5, none⟩ (.int .i64 y.bound)) base (slRL.pcs (some ⟨g, 0, none⟩) c (l.set j (y, A))) := by
  have h2 := pcs_below h hb
  obtain ⟨o1, g1⟩ := own_put (h2.all _ (List.mem_cons_self ..)) hj y A
  have hbh : base ≤ w.heap.size := by
    have := (h.all _ (List.mem_cons_self ..)).lt g rfl
    omega
  exact h2.put (hi := w.heap.size) (fun q hq k hk => h.lts q hq k hk) hbh (fun q hq => by obtain rfl := List.mem_singleton.1 hq; exact ho) (List.pairwise_singleton _ _) g1 o1

theorem infoSl : (Try.prog.info? 113).map (fun i => (i.zero, i.size, i.bytes)) = some (some (.agg #[.bool false, .slice none 0 0, .int .i64 0, .int .i64 0, .int .i64 0, .int .i64 0]), 6, 64) := by kernel_rfl
theorem info_partsSl {e : TypeId} {z : Value} {size bytes : Nat} (h : (Try.prog.info? e).map (fun i => (i.zero, i.size, i.bytes)) = some (some z, size, bytes)) :
    ∃ i, Try.prog.info? e = some i ∧ i.zero = some z ∧ i.size = size ∧ i.bytes = bytes := by
  cases hi : Try.prog.info? e with
  | none => rw [hi] at h; cases h
  | some i =>
    rw [hi] at h
    simp only [Option.map_some, Option.some.injEq, Prod.mk.injEq] at h
    exact ⟨i, rfl, h.1, h.2.1, h.2.2⟩
/-- a list of the call's own, and a frame -/
def SlRes (w : World) (xs : List Sl) (e : Ending) (w' : World) : Prop := ∃ (m : List (Sl × SA)) (a : Option Addr) (c : Nat), m.map Prod.fst = xs ∧ e = .returned (.slice a m.length c) ∧ Pcs w' w.heap.size (slRL.pcs a c m) ∧ Below w.heap.size w w'
/-- a round of the copy -/
structure TsSt (w wr : World) (l : List (Sl × SA)) (j : Nat) (m : List (Sl × SA)) : Prop where
  ml : m.length = j
  mf : m.map Prod.fst = (l.take j).map Prod.fst
  pc : Pcs wr w.heap.size (slRL.pcs (some ⟨w.heap.size, 0, none⟩) l.length (m ++ List.replicate (l.length - j) slNil))
  bl : Below w.heap.size w wr
set_option maxRecDepth 100000 in
set_option maxHeartbeats 8000000 in
theorem toSlotS_c (l : List (Sl × SA)) (a : Option Addr) (c : Nat) (w : World) (h : SRows w a l) (hm : l.length ≤ 1048576) (hq : ∀ x ∈ l, x.1.pits.length ≤ 1048576) :
    Calls Try.prog 74 #[.slice a l.length c] w (SlRes w (l.map Prod.fst)) := by
  obtain ⟨i0, hi, hz0, hz1, hz2⟩ := info_partsSl infoSl
  have HK := Lib.hid h
  have HQ := Lib.hid hq
  clear h hq
  go_enter Try.func74, Try.ntmps74
  go_wp2_with (at_make; refine wpList_make_full _ rfl _ _ 50 rfl w.heap.size 113 i0 (.agg #[.bool false, .slice none 0 0, .int .i64 0, .int .i64 0, .int .i64 0, .int .i64 0]) 6 Try.underlying50 hi hz0 hz1 _ _ _ _ l.length rfl rfl rfl rfl ?c1 ?c2 ?c3 ?_)
  case c1 => rw [hz2]; omega
  case c2 => unfold maxLen; omega
  case c3 => exact Nat.le_refl _
  intro w1 hown hgr
  have hb1 : Below w.heap.size w w1 := (Below.refl _ _).grown hgr (Nat.le_refl _) (fun k h => by cases h)
  have hmz : (madeCells #[.bool false, .slice none 0 0, .int .i64 0, .int .i64 0, .int .i64 0, .int .i64 0] (l.length * 6)).toList = flat slRL.f (List.replicate l.length slNil) := made_flat slRL.hf (by decide) #[.bool false, .slice none 0 0, .int .i64 0, .int .i64 0, .int .i64 0, .int .i64 0] slNil rfl l.length
  rw [hmz] at hown
  have HST0 : Hid (TsSt w w1 l 0 []) := by
    refine ⟨rfl, rfl, ⟨fun q hq => ?_, ?_⟩, hb1⟩
    · rcases List.mem_cons.1 hq with rfl | hq
      · rw [List.nil_append, Nat.sub_zero]
        show w1.ownsRow _ _ _ (.slice _ (List.replicate l.length slNil).length _) (List.replicate l.length slNil).length _
        rw [List.length_replicate]
        exact hown
      · obtain ⟨y, hy, hqy⟩ := flat_of_mem hq
        rw [List.nil_append] at hy
        obtain rfl := (List.mem_replicate.1 hy).2
        obtain rfl := List.mem_singleton.1 hqy
        exact World.ownsRow_nil _ _ _ _
    · refine List.pairwise_cons.2 ⟨fun q hq => ?_, flat_pairs.2 ⟨fun y hy => List.pairwise_singleton _ _, ?_⟩⟩
      · obtain ⟨y, hy, hqy⟩ := flat_of_mem hq
        rw [List.nil_append] at hy
        obtain rfl := (List.mem_replicate.1 hy).2
        obtain rfl := List.mem_singleton.1 hqy
        exact fun k h1 h2 => by cases h2
      · rw [List.pairwise_iff_getElem]
        intro i1 i2 h1 h2 h12 a ha b hb k ka kb
        simp only [List.nil_append, List.getElem_replicate] at ha
        obtain rfl := List.mem_singleton.1 ha
        cases ka
  clear hz0 hz1 hz2 hgr hown hb1 hi hmz
  go_wp2
  go_loopw [4] (fun i wr => ∃ (j : Nat) (m : List (Sl × SA)), i = .int .i64 j ∧ j ≤ l.length ∧ Hid (TsSt w wr l j m)) (fun i _ => l.length - (intOf i).toNat)
  case atStart => exact ⟨0, [], rfl, Nat.zero_le _, HST0⟩
  case round =>
    clear HST0
    obtain ⟨j, m, rfl, hj, HST⟩ := hrel
    by_cases hlt : j < l.length
    · obtain ⟨b, off, ha, hb, c0, c1, c2, c3, c4, c5⟩ := (HK.out.below HST.out.bl (Nat.le_refl _)).at (k := j) (x := l[j]) (by simp [hlt])
      subst ha
      have HI := Lib.hid ((HK.out.items l[j] (List.getElem_mem hlt)).below HST.out.bl (Nat.le_refl _))
      have HL := Lib.hid (HQ.out l[j] (List.getElem_mem hlt))
      have HMF : Hid ((m ++ [(l[j].1, (⟨none, 0⟩ : SA))]).map Prod.fst = (l.take (j + 1)).map Prod.fst) := by
        unfold Hid
        rw [List.map_append, HST.out.mf, List.take_succ_eq_append_getElem hlt, List.map_append]
        rfl
      obtain ⟨y, hy⟩ : ∃ y, y = l[j] := ⟨_, rfl⟩
      rw [← hy] at c0 c1 c2 c3 c4 c5 HI HL HMF
      clear hy
      obtain ⟨x, K⟩ := y
      dsimp only at c0 c1 c2 c3 c4 c5 HI HL HMF
      have hll : (m ++ List.replicate (l.length - j) slNil).length = l.length := by rw [List.length_append, HST.out.ml, List.length_replicate]; omega
      go_wp2_with fail
      refine (toSlot_c x K _ HI.out HL.out).mono ?_
      rintro e w2 ⟨A, rfl, ho2, hb2⟩
      have hp2 := pcs_below HST.out.pc hb2
      have hx1 : (m ++ List.replicate (l.length - j) slNil)[j]? = some slNil := by
        rw [List.getElem?_append_right (by rw [HST.out.ml]; omega), HST.out.ml, Nat.sub_self]
        rw [List.getElem?_replicate]
        rw [if_pos (by omega)]
      have h5 := pcs_put HST.out.pc hb2 (j := j) (by rw [hll]; omega) x A ho2
      have hset : (m ++ List.replicate (l.length - j) slNil).set j (x, A) = (m ++ [(x, A)]) ++ List.replicate (l.length - (j + 1)) slNil := by
        rw [List.set_append_right _ _ (by rw [HST.out.ml]; omega), HST.out.ml, Nat.sub_self]
        have : l.length - j = (l.length - (j + 1)) + 1 := by omega
        rw [this, List.replicate_succ, List.set_cons_zero, List.append_assoc]
        rfl
      rw [hset] at h5
      have hp3 : PcsP w.heap.size w2.heap.size (slRL.pcs (some ⟨w.heap.size, 0, none⟩) l.length (m ++ List.replicate (l.length - j) slNil)) w2 := hp2.mk'
      have gf := fun o => (RL.main hp3).frozenAt o
      obtain ⟨q0, f0⟩ : _ ∧ _ := RL.cell hp3 hx1 (i := 0) (by decide) rfl
      obtain ⟨q1, f1⟩ : _ ∧ _ := RL.cell hp3 hx1 (i := 1) (by decide) rfl
      obtain ⟨q2, f2⟩ : _ ∧ _ := RL.cell hp3 hx1 (i := 2) (by decide) rfl
      obtain ⟨q3, f3⟩ : _ ∧ _ := RL.cell hp3 hx1 (i := 3) (by decide) rfl
      obtain ⟨q4, f4⟩ : _ ∧ _ := RL.cell hp3 hx1 (i := 4) (by decide) rfl
      obtain ⟨q5, f5⟩ : _ ∧ _ := RL.cell hp3 hx1 (i := 5) (by decide) rfl
      simp only [show slRL.n = 6 from rfl, Nat.add_zero] at q0 f0 q1 f1 q2 f2 q3 f3 q4 f4 q5 f5
      have HB2 := Lib.hid (below_next HST.out.bl hb2)
      have HBZ : Below w.heap.size w ((((((w2.setCell ⟨w.heap.size, j * 6, none⟩ (.bool x.used)).setCell ⟨w.heap.size, j * 6 + 1, none⟩ (.slice A.qa x.pits.length A.qc)).setCell ⟨w.heap.size, j * 6 + 2, none⟩ (.int .i64 x.player)).setCell ⟨w.heap.size, j * 6 + 3, none⟩ (.int .i64 x.depth)).setCell ⟨w.heap.size, j * 6 + 4, none⟩ (.int .i64 x.value)).setCell ⟨w.heap.size, j * 6 + 5, none⟩ (.int .i64 x.bound)) := by
        have k0 := HB2.out
        repeat (first | (with_reducible exact k0) | ((with_reducible refine Below.setCell ?_ ?_ _); rotate_left; (simp <;> omega)))
      have HH : Hid (TsSt w _ l (j + 1) (m ++ [(x, A)])) := ⟨by rw [List.length_append, HST.out.ml]; rfl, by rw [← HMF.out, List.map_append, List.map_append]; rfl, h5, HBZ⟩
      clear h5 hx1 hset hp2 hp3 HST ho2 hb2 HBZ c0 c1 c2 c3 c4 c5 hll
      go_wp2
      go_roundw
      case rel => exact ⟨j + 1, _, by go_num, by omega, HH⟩
      case measure => simp [intOf]; omega
    · obtain rfl : j = l.length := by omega
      have h1 := HST.out.pc
      rw [Nat.sub_self, List.replicate_zero, List.append_nil] at h1
      have hmf := HST.out.mf
      rw [List.take_length] at hmf
      have HML := Lib.hid HST.out.ml
      have HR := Lib.hid (And.intro h1 (And.intro HST.out.bl hmf))
      clear h1 hmf HST
      go_wp2
      go_ret
      exact ⟨m, _, l.length, HR.out.2.2, by rw [HML.out]; rfl, HR.out.1, HR.out.2.1⟩

end Go.Proofs.Ytbjgigdkbjabaaa
