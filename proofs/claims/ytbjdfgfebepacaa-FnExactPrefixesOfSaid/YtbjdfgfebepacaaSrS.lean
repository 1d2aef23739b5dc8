/- SrS: the value and the size of a search: the reference's functions. Each contract holds for every argument, under the premises that it states. -/
import Derived.Test.YtbjdfgfebepacaaLine
namespace Go.Proofs.Ytbjdfgfebepacaa
set_option linter.unusedSimpArgs false
set_option linter.unusedVariables false
set_option linter.unnecessarySimpa false
open Go.RowKit Go.ChangeShapes Go.WideShapes Go.ChangeAt Go.Joins

set_option maxRecDepth 100000 in
set_option maxHeartbeats 8000000 in
theorem l15End_c (rb ro pb po : Nat) (r : R) (p : P) (hok : p.ok r = true) (pa sa : Option Addr) (pc sc : Nat) (w : World) (hr : R.At w rb ro r) (hp : P.At w pb po p pa pc sa sc) (h : PRow w p pa sa) :
    Calls Try.prog 155 #[.pointer (some ⟨rb, ro, none⟩), .pointer (some ⟨pb, po, none⟩)] w fun e w' => e = .returned (.int .i64 (endP r p)) ∧ ∃ m, w' = w.drewN m := by
  have hs0 := sideP_bd hok p.player
  have hs1 := sideP_bd hok (1 - p.player)
  obtain ⟨hbd, ⟨pn, hpn, hpn1⟩, t, hB, ht0, ht1⟩ := P.ok_parts hok
  have hal : allIn p.pits = true := hB.allIn (by omega)
  obtain ⟨sd, hsd⟩ : ∃ sd : Int → Int, sd = fun pl => sideP r p.pits pl := ⟨_, rfl⟩
  have H1 : Hid (∀ (pl : Int) (m : Nat), (pl = p.player ∨ pl = 1 - p.player) → Calls Try.prog 190 #[.pointer (some ⟨rb, ro, none⟩), .slice pa p.pits.length pc, .int .i64 pl] (w.drewN m) fun e w' => e = .returned (.int .i64 (sd pl)) ∧ w' = w.drewN m) := fun pl m hpl => by
    obtain ⟨n, hn, hn1⟩ : ∃ n : Nat, pl = (n : Int) ∧ n ≤ 1 := by
      rcases hpl with rfl | rfl
      · exact ⟨pn, hpn, hpn1⟩
      · exact ⟨1 - pn, by omega, by omega⟩
    have := l04Side_c rb ro r hbd n hn1 p.pits hB.lp hal pa pc _ (hr.draw m) (h.pits.drewN m)
    rw [hn, hsd]
    exact q_same this
  have hwr : IntKind.i64.wrap (1 - p.player) = 1 - p.player := IntWalk.i64_in _ (by omega)
  have HE : Hid (endP r p = sd p.player - sd (1 - p.player)) := by unfold Hid; rw [hsd]; rfl
  have hsA : sd p.player = sideP r p.pits p.player := by rw [hsd]
  have hsB : sd (1 - p.player) = sideP r p.pits (1 - p.player) := by rw [hsd]
  have hws : IntKind.i64.wrap (sd p.player - sd (1 - p.player)) = sd p.player - sd (1 - p.player) := IntWalk.i64_in _ (by rw [hsA, hsB]; omega)
  obtain ⟨p0, p1, p2⟩ := hp
  clear hsA hsB hsd hok hbd hpn hB hal ht0 ht1 hr hs0 hs1 h
  go_enter Try.func155, Try.ntmps155
  go_wp2_with fail
  go_quiet ((go_at_call 190; exact Calls.quiet_of_same (H1.out _ _ (by first | exact .inl rfl | exact .inr rfl | exact .inr hwr))))
  go_wp2
  go_ret
  rw [HE.out]
  exact ⟨rfl, _, rfl⟩

/-- what the reference's search leaves: its value, and its size in its own block -/
def SvPost (w : World) (S rb ro : Nat) (v n : Int) (e : Ending) (w' : World) : Prop := e = .returned (.int .i64 v) ∧ SrB w' S rb ro n ∧ Chg S (S + 1) w w'
def SvC (r : R) (d : Nat) : Prop := ∀ (p : P) (_ : p.ok r = true) (S rb ro pb po : Nat) (pa sa : Option Addr) (pc sc : Nat) (w : World) (s : Int) (_ : SrB w S rb ro s) (_ : R.At w rb ro r) (_ : ¬ rb = S) (_ : P.At w pb po p pa pc sa sc) (_ : ¬ pb = S) (_ : RowN S w pa p.pits) (_ : RowN S w sa p.stores) (_ : 0 ≤ s) (_ : s + Bz d ≤ 2000000000),
    Calls Try.prog 184 #[.pointer (some ⟨S, 0, none⟩), .pointer (some ⟨pb, po, none⟩), .int .i64 (d : Int)] w (SvPost w S rb ro (vS r d p s).1 (vS r d p s).2)

set_option maxRecDepth 100000 in
set_option maxHeartbeats 8000000 in
theorem sOption_c (r : R) (d : Nat) (hd8 : d ≤ 8) (IH : SvC r d) (x : Mk) (hv : (nxt x).ok r = true) (hg0 : 0 ≤ x.gain) (hg1 : x.gain ≤ 2000) (dI : Int) (hdI : dI = (d : Int) + 1) (S rb ro g o : Nat) (A : MA) (w : World) (s : Int) (hS : SrB w S rb ro s) (hr : R.At w rb ro r) (hrS : ¬ rb = S) (hgS : ¬ g = S)
    (q1 : w.cell? ⟨g, o + 1, none⟩ = some (.int .i64 x.gain)) (q2 : w.cell? ⟨g, o + 2, none⟩ = some (.bool x.again)) (hp : P.At w g (o + 3) (nxt x) A.pa A.pc A.sa A.sc) (hn1 : RowN S w A.pa x.pits) (hn2 : RowN S w A.sa x.stores) (hs0 : 0 ≤ s) (hs1 : s + Bz d ≤ 2000000000) :
    Calls Try.prog 197 #[.pointer (some ⟨S, 0, none⟩), .pointer (some ⟨g, o, none⟩), .int .i64 dI] w (SvPost w S rb ro (moveV x (vS r d (nxt x) s).1) (vS r d (nxt x) s).2) := by
  have HC := Lib.hid (IH (nxt x) hv S rb ro g (o + 3) A.pa A.sa A.pc A.sc w s hS hr hrS hp hgS hn1 hn2 hs0 hs1)
  have hbd := vS_bd r d (nxt x) s hv hs0
  obtain ⟨_, _, hb0, hb1⟩ := hbd
  have hwd : IntKind.i64.wrap (dI - 1) = (d : Int) := by rw [hdI, IntWalk.i64_in _ (by omega)]; omega
  have hsb : dI - 1 = (d : Int) := by omega
  have hwb : IntKind.i64.wrap (d : Int) = (d : Int) := IntWalk.i64_in _ (by omega)
  obtain ⟨v, hvd⟩ : ∃ v, v = (vS r d (nxt x) s).1 := ⟨_, rfl⟩
  obtain ⟨n, hnd⟩ : ∃ n, n = (vS r d (nxt x) s).2 := ⟨_, rfl⟩
  rw [← hvd, ← hnd] at HC
  rw [← hvd] at hb0 hb1 ⊢
  rw [← hnd]
  have HD := Lib.hid hwd
  have hgl : g < w.heap.size := World.block_lt_of_cell? w _ q1
  have Hq := Lib.hid (⟨q1, q2⟩ : _ ∧ _)
  clear hvd hnd hdI hwd hS hr hp hn1 hn2 q1 q2
  have e1 : IntKind.i64.wrap (x.gain + v) = x.gain + v := IntWalk.i64_in _ (by omega)
  have e2 : IntKind.i64.wrap (x.gain - v) = x.gain - v := IntWalk.i64_in _ (by omega)
  go_enter Try.func197, Try.ntmps197
  go_wp2_with fail
  refine HC.out.mono ?_
  rintro e w1 ⟨rfl, hB1, hC1⟩
  obtain ⟨q1, q2⟩ := Hq.out
  have q1 := hC1.cell q1 (by omega)
  have q2 := hC1.cell q2 (by omega)
  have HP : Hid (SrB w1 S rb ro n ∧ Chg S (S + 1) w w1) := ⟨hB1, hC1⟩
  clear hB1 hC1 HC Hq
  cases hA : x.again
  · have HM : Hid (moveV x v = x.gain - v) := by unfold Hid moveV; rw [hA]; rfl
    rw [hA] at q2
    clear hA
    go_wp2
    go_ret
    rw [HM.out]
    exact ⟨rfl, HP.out.1, HP.out.2⟩
  · have HM : Hid (moveV x v = x.gain + v) := by unfold Hid moveV; rw [hA]; rfl
    rw [hA] at q2
    clear hA
    go_wp2
    go_ret
    rw [HM.out]
    exact ⟨rfl, HP.out.1, HP.out.2⟩

structure SvSt (w wr : World) (S rb ro : Nat) (r : R) (d : Nat) (l : List (Mk × MA)) (ad : Option Addr) (c g k : Nat) (b s : Int) (tgt : Int × Int) : Prop where
  kl : k ≤ l.length
  go : voGo (vS r d) ((l.drop k).map Prod.fst) k b s = tgt
  s0 : 0 ≤ s
  s1 : s + Bz d * ((l.length - k : Nat) : Int) ≤ 2000000000
  own : MksOwn wr w.heap.size ad c l
  box : BoxP g (mcells l) wr
  srb : SrB wr S rb ro s
  chg : Chg S (S + 1) w wr
theorem voGo_at (f : P → Int → Int × Int) (l : List (Mk × MA)) (k : Nat) (b s : Int) (x : Mk × MA) (hx : l[k]? = some x) : voGo f ((l.drop k).map Prod.fst) k b s = voGo f ((l.drop (k + 1)).map Prod.fst) (k + 1) (if k = 0 ∨ moveV x.1 (f (nxt x.1) s).1 > b then moveV x.1 (f (nxt x.1) s).1 else b) (f (nxt x.1) s).2 := by
  obtain ⟨hk, he⟩ := List.getElem?_eq_some_iff.1 hx
  rw [List.drop_eq_getElem_cons hk, he]
  rfl
theorem vS_many {r : R} {d : Nat} {p : P} {s : Int} (h : s + 1 > 3000) : vS r d p s = (0, s + 1) := by
  cases d <;> (simp only [vS]; rw [if_pos h])
theorem vS_nil {r : R} {d : Nat} {p : P} {s : Int} (h : ¬ s + 1 > 3000) (hn : allP r p = []) : vS r d p s = (endP r p, s + 1) := by
  cases d <;> (simp only [vS]; rw [if_neg h, if_pos hn])
theorem vS_zero {r : R} {p : P} {s : Int} (h : ¬ s + 1 > 3000) (hn : ¬ allP r p = []) : vS r 0 p s = (0, s + 1) := by
  simp only [vS]; rw [if_neg h, if_neg hn]
theorem vS_step {r : R} {d : Nat} {p : P} {s : Int} (h : ¬ s + 1 > 3000) (hn : ¬ allP r p = []) : vS r (d + 1) p s = voGo (vS r d) (allP r p) 0 0 (s + 1) := by
  simp only [vS]; rw [if_neg h, if_neg hn]
set_option maxRecDepth 100000 in
set_option maxHeartbeats 16000000 in
theorem sValue_step (r : R) (d : Nat) (hd8 : d ≤ 8) (IH : ∀ d', d = d' + 1 → SvC r d') : SvC r d := by
  intro p hok S rb ro pb po pa sa pc sc w s hS hr hrS hp hpS hn1 hn2 hs0 hs1
  obtain ⟨m1, m2⟩ := P.ok_lens hok
  have hSl : S < w.heap.size := World.block_lt_of_cell? w _ hS.c0
  have hbz := Bz_pos d
  obtain ⟨z0, z1⟩ := (⟨hS.c0, hS.c1⟩ : _ ∧ _)
  have zf := hS.fz
  have hws : IntKind.i64.wrap (s + 1) = s + 1 := IntWalk.i64_in _ (by omega)
  have hC1 : Chg S (S + 1) w (w.setCell ⟨S, 1, none⟩ (.int .i64 (s + 1))) := chg_set w S 1 _
  have hS1 := hS.set (s + 1)
  have HC1 : Hid (SrB (w.setCell ⟨S, 1, none⟩ (.int .i64 (s + 1))) S rb ro (s + 1) ∧ Chg S (S + 1) w (w.setCell ⟨S, 1, none⟩ (.int .i64 (s + 1)))) := ⟨hS1, hC1⟩
  obtain ⟨y, hy⟩ : ∃ y, y = vS r d p s := ⟨_, rfl⟩
  rw [← hy]
  obtain ⟨dI, hdI⟩ : ∃ dI : Int, dI = (d : Int) := ⟨_, rfl⟩
  rw [← hdI]
  by_cases hmany : s + 1 > 3000
  · have HE : Hid (y = (0, s + 1)) := by unfold Hid; rw [hy]; exact vS_many hmany
    clear hy hdI hC1 hS1 hS hr hp hn1 hn2 IH hok hbz
    go_enter Try.func184, Try.ntmps184
    go_wp2
    go_ret
    rw [HE.out]
    exact ⟨rfl, HC1.out⟩
  have HA := Lib.hid (l07All_c rb ro pb po r p hok pa sa pc sc _ (hC1.ratAt hr hrS) (hC1.patAt hp hpS) (rowN_prow (hC1.ints hn1) (hC1.ints hn2)) (by omega) (by omega))
  have HEV := Lib.hid (fun W hr hp h => l15End_c rb ro pb po r p hok pa sa pc sc W hr hp h)
  have HRP : Hid (R.At (w.setCell ⟨S, 1, none⟩ (.int .i64 (s + 1))) rb ro r ∧ P.At (w.setCell ⟨S, 1, none⟩ (.int .i64 (s + 1))) pb po p pa pc sa sc ∧ PRow (w.setCell ⟨S, 1, none⟩ (.int .i64 (s + 1))) p pa sa) := ⟨hC1.ratAt hr hrS, hC1.patAt hp hpS, rowN_prow (hC1.ints hn1) (hC1.ints hn2)⟩
  have HRW : Hid (R.At w rb ro r) := hr
  have HLN := Lib.hid (allP_len8 hok)
  have HV := Lib.hid (fun x (hx : x ∈ allP r p) => allP_valid hx)
  have HPS := Lib.hid (fun x (hx : x ∈ allP r p) => allP_pos hx)
  have HY := Lib.hid hy
  have HDI := Lib.hid hdI
  clear hy hdI hC1 hS1 hS hr hp hn1 hn2 hok
  go_enter Try.func184, Try.ntmps184
  go_wp2_with fail
  refine HA.out.mono ?_
  rintro e w2 ⟨l, ad, c, hl, rfl, ho, hb2⟩
  have HL := Lib.hid hl
  have hll : l.length ≤ 8 := by
    have h1 := HLN.out
    rw [← HL.out, List.length_map] at h1
    exact h1
  have HS2 : Hid (SrB w2 S rb ro (s + 1) ∧ Chg S (S + 1) w w2) := ⟨HC1.out.1.below hb2, HC1.out.2.grow hb2⟩
  obtain ⟨z0, z1⟩ := (⟨HS2.out.1.c0, HS2.out.1.c1⟩ : _ ∧ _)
  by_cases hln : l.length = 0
  · have HNI : Hid (allP r p = []) := by unfold Hid; rw [← HL.out, List.eq_nil_of_length_eq_zero hln]; rfl
    have HEM : Hid (y = (endP r p, s + 1)) := by unfold Hid; rw [HY.out]; exact vS_nil (by omega) HNI.out
    have hlz : ((l.length : Int) == 0) = true := by simpa using hln
    have HC := Lib.hid (HEV.out w2 (HRP.out.1.below hb2 (World.block_lt_of_cell? _ _ HRP.out.1.c0)) (HRP.out.2.1.below hb2 (World.block_lt_of_cell? _ _ HRP.out.2.1.c0)) (HRP.out.2.2.below hb2 (Nat.le_refl _)))
    clear hb2 hl ho hln
    go_wp2_with fail
    refine HC.out.mono ?_
    rintro e w3 ⟨rfl, m, hm⟩
    have HS3 : Hid (SrB w3 S rb ro (s + 1) ∧ Chg S (S + 1) w w3) := by
      have hb3 : Below w2.heap.size w2 w3 := hm ▸ below_draws _ _ m
      exact ⟨HS2.out.1.below hb3, HS2.out.2.grow hb3⟩
    clear hm
    go_wp2
    go_ret
    rw [HEM.out]
    exact ⟨rfl, HS3.out⟩
  have hlz : ((l.length : Int) == 0) = false := by simpa using hln
  have HNE : Hid (¬ allP r p = []) := by
    intro e
    rw [← HL.out] at e
    have := congrArg List.length e
    simp at this
    exact hln (by rw [this]; rfl)
  by_cases hd : d = 0
  · have hd0 : (dI == 0) = true := by have := HDI.out; simp; omega
    have HE : Hid (y = (0, s + 1)) := by unfold Hid; rw [HY.out, hd]; exact vS_zero (by omega) HNE.out
    clear hd hl ho hb2 hln
    go_wp2
    go_ret
    rw [HE.out]
    exact ⟨rfl, HS2.out⟩
  obtain ⟨d', rfl⟩ : ∃ d', d = d' + 1 := ⟨d - 1, by omega⟩
  have hdI := HDI.out
  have hd0 : (dI == 0) = false := by simp; omega
  have HIH := Lib.hid (IH d' rfl)
  have HDJ : Hid (dI = (d' : Int) + 1) := by unfold Hid; omega
  obtain ⟨g, hbox, hg0, hgd⟩ := mks_box ho hb2.size
  have HGD := Lib.hid hgd
  have hbz' := Bz_pos d'
  have hst0 : Hid (SvSt w w2 S rb ro r d' l ad c g 0 0 (s + 1) y) := by
    refine ⟨Nat.zero_le _, by rw [List.drop_zero, HL.out, HY.out]; exact (vS_step (by omega) HNE.out).symm, by omega, ?_, ho.le (by simp), hbox, HS2.out.1, HS2.out.2⟩
    have h1 : Bz d' * (l.length : Int) ≤ Bz d' * 8 := Int.mul_le_mul_of_nonneg_left (by omega) (by omega)
    simp only [Bz] at hs1
    rw [Nat.sub_zero]
    omega
  have HVX := Lib.hid (fun x (hx : x ∈ l) => HV.out x.1 (by rw [← HL.out]; exact List.mem_map_of_mem hx))
  have HPX := Lib.hid (fun x (hx : x ∈ l) => HPS.out x.1 (by rw [← HL.out]; exact List.mem_map_of_mem hx))
  have hgS : ¬ g = S := by
    simp only [World.size_setCell] at hg0
    omega
  clear hb2 hl ho hbox hg0 hgd HV HPS hdI hd hln IH HA HEV HRP hs1
  go_wp2_with fail
  go_loopw [8, 9] (fun ss i wr => ∃ (k : Nat) (b s : Int), i = .int .i64 k ∧ ss = .int .i64 b ∧ SvSt w wr S rb ro r d' l ad c g k b s y) (fun _ i _ => l.length - (intOf i).toNat)
  case atStart => exact ⟨0, 0, s + 1, rfl, rfl, hst0.out⟩
  case round =>
    clear hst0 HS2 z0 z1
    obtain ⟨k, b, s', rfl, rfl, hst⟩ := hrel
    have HST := Lib.hid hst
    have hkl := hst.kl
    clear hst
    by_cases hk : k < l.length
    case neg =>
      have HT : Hid (y = (b, s')) := by
        have h1 := HST.out.go
        rw [List.drop_eq_nil_of_le (by omega)] at h1
        exact h1.symm
      go_wp2
      go_ret
      rw [HT.out]
      exact ⟨rfl, HST.out.srb, HST.out.chg⟩
    obtain ⟨x, hx⟩ : ∃ x, l[k]? = some x := ⟨l[k], by simp [hk]⟩
    obtain ⟨q0, q1, q2, q3, q4, q5⟩ := box_cells HST.out.box hx
    obtain rfl := HGD.out (by omega)
    have hki : (k : Int) < (l.length : Int) := by omega
    have hxm : x ∈ l := List.mem_of_getElem? hx
    obtain ⟨hn1, hn2⟩ := mks_item HST.out.own (S := S) (by omega) hxm
    obtain ⟨hp0, hp1, hp2⟩ := HPX.out x hxm
    have hs0' := HST.out.s0
    have hs1' := HST.out.s1
    have hmul : Bz d' * ((l.length - k : Nat) : Int) = Bz d' * ((l.length - (k + 1) : Nat) : Int) + Bz d' := by
      rw [show (l.length - k : Nat) = (l.length - (k + 1)) + 1 by omega, Int.natCast_add, Int.mul_add]; simp
    have hnn : 0 ≤ Bz d' * ((l.length - (k + 1) : Nat) : Int) := Int.mul_nonneg (by omega) (by omega)
    have HC := Lib.hid (sOption_c r d' (by omega) HIH.out x.1 (HVX.out x hxm) hp0 hp2 dI HDJ.out S rb ro g (k * 6) x.2 wr s' HST.out.srb (HST.out.chg.ratAt HRW.out hrS) hrS hgS q1 q2 ⟨q3, q4, q5⟩ hn1 hn2 hs0' (by omega))
    have hvb := vS_bd r d' (nxt x.1) s' (HVX.out x hxm) hs0'
    have HG := Lib.hid (voGo_at (vS r d') l k b s' x hx)
    obtain ⟨u, hu⟩ : ∃ u, u = moveV x.1 (vS r d' (nxt x.1) s').1 := ⟨_, rfl⟩
    obtain ⟨n, hn⟩ : ∃ n, n = (vS r d' (nxt x.1) s').2 := ⟨_, rfl⟩
    rw [← hu, ← hn] at HC HG
    rw [← hn] at hvb
    obtain ⟨hv0, hv1, _, _⟩ := hvb
    have HN0 : Hid (0 ≤ n ∧ n + Bz d' * ((l.length - (k + 1) : Nat) : Int) ≤ 2000000000) := ⟨by omega, by omega⟩
    have hgl : g < wr.heap.size := World.block_lt_of_cell? wr _ q0
    clear hx hu hn hmul hnn hv0 hv1 hs0' hs1' hn1 hn2 q0 q1 q2 q3 q4 q5 hp0 hp1 hp2
    go_wp2_with fail
    refine HC.out.mono ?_
    rintro e w3 ⟨rfl, hB3, hC3⟩
    have HN : Hid (SrB w3 S rb ro n ∧ Chg S (S + 1) w w3 ∧ MksOwn w3 w.heap.size (some ⟨g, 0, none⟩) c l ∧ BoxP g (mcells l) w3) := ⟨hB3, HST.out.chg.trans hC3, hC3.mksOwn HST.out.own (by omega), hC3.boxP HST.out.box hgS⟩
    clear hB3 hC3 HC
    by_cases hk0 : k = 0 ∨ u > b
    · have HT : Hid (voGo (vS r d') ((l.drop (k + 1)).map Prod.fst) (k + 1) u n = y) := by
        have h1 := HST.out.go
        rw [HG.out, if_pos hk0] at h1
        exact h1
      have hfin : SvSt w w3 S rb ro r d' l (some ⟨g, 0, none⟩) c g (k + 1) u n y := ⟨by omega, HT.out, HN0.out.1, HN0.out.2, HN.out.2.2.1, HN.out.2.2.2, HN.out.1, HN.out.2.1⟩
      have HF := Lib.hid hfin
      clear hfin
      by_cases hk1 : k = 0
      · have hk0' : ((k : Int) == 0) = true := by simp; omega
        clear hk0 hk1
        go_wp2
        go_roundw
        case rel => exact ⟨k + 1, u, n, by go_num, rfl, HF.out⟩
        case measure => (simp [intOf]; omega)
      · have hk0' : ((k : Int) == 0) = false := by simp; omega
        have hub : u > b := by omega
        clear hk0 hk1
        go_wp2
        go_roundw
        case rel => exact ⟨k + 1, u, n, by go_num, rfl, HF.out⟩
        case measure => (simp [intOf]; omega)
    · have HT : Hid (voGo (vS r d') ((l.drop (k + 1)).map Prod.fst) (k + 1) b n = y) := by
        have h1 := HST.out.go
        rw [HG.out, if_neg hk0] at h1
        exact h1
      have hfin : SvSt w w3 S rb ro r d' l (some ⟨g, 0, none⟩) c g (k + 1) b n y := ⟨by omega, HT.out, HN0.out.1, HN0.out.2, HN.out.2.2.1, HN.out.2.2.2, HN.out.1, HN.out.2.1⟩
      have HF := Lib.hid hfin
      have hk0' : ((k : Int) == 0) = false := by simp; omega
      have hub : ¬ u > b := by omega
      clear hfin hk0
      go_wp2
      go_roundw
      case rel => exact ⟨k + 1, b, n, by go_num, rfl, HF.out⟩
      case measure => (simp [intOf]; omega)
theorem sValue_c (r : R) : ∀ (d : Nat), d ≤ 8 → SvC r d
  | 0, h => sValue_step r 0 h (fun d' e => absurd e (by omega))
  | d + 1, h => sValue_step r (d + 1) h (fun d' e => by
    obtain rfl : d = d' := by omega
    exact sValue_c r d (by omega))


/-! ### SrA: the searches for a size, a value and a value within bounds: the reference's functions. Each contract holds for every argument, under the premises that it states. -/
def preC (r : R) (p : P) (d : Int) : Int := if p.ok r = true then (if 0 ≤ d ∧ d ≤ 8 then 0 else 2) else 1
theorem preC_zero {r : R} {p : P} {d : Int} (h : preC r p d = 0) : p.ok r = true ∧ 0 ≤ d ∧ d ≤ 8 := by
  unfold preC at h
  split at h
  · rename_i h1
    split at h
    · rename_i h2; exact ⟨h1, h2⟩
    · simp at h
  · simp at h
theorem srchC_pre {r : R} {p : P} {d : Int} (h : ¬ preC r p d = 0) : srchC r p d = preC r p d := by
  unfold preC at h ⊢
  unfold srchC
  split
  · rename_i h1
    rw [if_pos h1] at h
    split
    · rename_i h2; rw [if_pos h2] at h; exact absurd rfl h
    · rfl
  · rfl
theorem prow_n {S : Nat} {w : World} {p : P} {pa sa : Option Addr} {r : R} (hok : p.ok r = true) (h : PRow w p pa sa) (hS : w.heap.size ≤ S) : RowN S w pa p.pits ∧ RowN S w sa p.stores := by
  obtain ⟨hbd, _, t, hB, _, _⟩ := P.ok_parts hok
  have := hbd.lo; have := hB.lp; have := hB.ls
  exact ⟨arg_rowN h.pits (by omega) hS, arg_rowN h.stores (by omega) hS⟩

set_option maxHeartbeats 4000000 in
theorem l15Code_c (rb ro pb po : Nat) (r : R) (p : P) (d : Int) (pa sa : Option Addr) (pc sc : Nat) (w : World) (hr : R.At w rb ro r) (hp : P.At w pb po p pa pc sa sc) (h : PRow w p pa sa) (m1 : p.pits.length ≤ 16777216) (m2 : p.stores.length ≤ 16777216) :
    Calls Try.prog 183 #[.pointer (some ⟨rb, ro, none⟩), .pointer (some ⟨pb, po, none⟩), .int .i64 d] w fun e w' => e = .returned (.int .i64 (preC r p d)) ∧ ∃ m, w' = w.drewN m := by
  have HV := l04Ok_c rb ro pb po r p pa sa pc sc w hr hp h m1 m2
  have HBT := fun W => l00In_c d 0 8 W
  obtain ⟨y, hy⟩ : ∃ y, y = preC r p d := ⟨_, rfl⟩
  rw [← hy]
  clear hr hp h
  cases hok : p.ok r
  · rw [hok] at HV
    have HV := Lib.hid HV
    have HE : Hid (y = 1) := by unfold Hid; rw [hy, preC, hok]; rfl
    clear hok hy
    go_enter Try.func183, Try.ntmps183
    go_wp2_with fail
    refine HV.out.mono ?_
    rintro e w1 ⟨rfl, m, rfl⟩
    go_wp2
    go_ret
    rw [HE.out]
    exact ⟨rfl, _, rfl⟩
  rw [hok] at HV
  have HV := Lib.hid HV
  cases hb : inB d 0 8
  · have hn : ¬ (0 ≤ d ∧ d ≤ 8) := fun e => by rw [inB_iff.2 e] at hb; cases hb
    have HE : Hid (y = 2) := by unfold Hid; rw [hy, preC, hok, if_pos rfl, if_neg hn]
    rw [hb] at HBT
    have HBT := Lib.hid HBT
    clear hok hy hb hn
    go_enter Try.func183, Try.ntmps183
    go_wp2_with fail
    refine HV.out.mono ?_
    rintro e w1 ⟨rfl, m, rfl⟩
    go_wp2_with fail
    refine (HBT.out _).mono ?_
    rintro e w2 ⟨rfl, rfl⟩
    go_wp2
    go_ret
    rw [HE.out]
    exact ⟨rfl, _, rfl⟩
  · have HE : Hid (y = 0) := by unfold Hid; rw [hy, preC, hok, if_pos rfl, if_pos (inB_iff.1 hb)]
    rw [hb] at HBT
    have HBT := Lib.hid HBT
    clear hok hy hb
    go_enter Try.func183, Try.ntmps183
    go_wp2_with fail
    refine HV.out.mono ?_
    rintro e w1 ⟨rfl, m, rfl⟩
    go_wp2_with fail
    refine (HBT.out _).mono ?_
    rintro e w2 ⟨rfl, rfl⟩
    go_wp2
    go_ret
    rw [HE.out]
    exact ⟨rfl, _, rfl⟩

set_option maxRecDepth 100000 in
set_option maxHeartbeats 8000000 in
theorem l15Ask_c (rb ro pb po : Nat) (r : R) (p : P) (d : Int) (pa sa : Option Addr) (pc sc : Nat) (w : World) (hr : R.At w rb ro r) (hp : P.At w pb po p pa pc sa sc) (h : PRow w p pa sa) (m1 : p.pits.length ≤ 16777216) (m2 : p.stores.length ≤ 16777216) :
    Calls Try.prog 144 #[.pointer (some ⟨rb, ro, none⟩), .pointer (some ⟨pb, po, none⟩), .int .i64 d] w fun e w' => e = .returned (.tuple #[.int .i64 (saskP r p d).1, .int .i64 (saskP r p d).2.1, .int .i64 (saskP r p d).2.2]) ∧ Below w.heap.size w w' := by
  have HC := l15Code_c rb ro pb po r p d pa sa pc sc w hr hp h m1 m2
  obtain ⟨y, hy⟩ : ∃ y, y = saskP r p d := ⟨_, rfl⟩
  rw [← hy]
  obtain ⟨c, hcd⟩ : ∃ c, c = preC r p d := ⟨_, rfl⟩
  rw [← hcd] at HC
  have HC := Lib.hid HC
  by_cases hz : c = 0
  case neg =>
    have hz' : (c != 0) = true := by simpa using hz
    have HE : Hid (y = (0, 0, c)) := by
      unfold Hid
      have h1 := srchC_pre (r := r) (p := p) (d := d) (by rw [← hcd]; exact hz)
      rw [← hcd] at h1
      rw [hy, saskP, h1, if_neg hz]
    clear hcd hy hz hr hp h
    go_enter Try.func144, Try.ntmps144
    go_wp2_with fail
    refine HC.out.mono ?_
    rintro e w1 ⟨rfl, m, rfl⟩
    go_wp2
    go_ret3
    rw [HE.out]
    exact ⟨rfl, below_draws _ _ _⟩
  obtain ⟨hok, hd0, hd8⟩ := preC_zero (by rw [← hcd]; exact hz)
  have hz' : (c != 0) = false := by simpa using hz
  obtain ⟨D, rfl⟩ : ∃ D : Nat, d = (D : Int) := ⟨d.toNat, by omega⟩
  have hbz := Bz_le D (by omega)
  have hrb : rb < w.heap.size := World.block_lt_of_cell? w _ hr.c0
  have hpb : pb < w.heap.size := World.block_lt_of_cell? w _ hp.c0
  have HSV : Hid (∀ (m : Nat) (W : World), Below w.heap.size w W → W.heap.size = w.heap.size + 1 → SrB W w.heap.size rb ro 0 → Calls Try.prog 184 #[.pointer (some ⟨w.heap.size, 0, none⟩), .pointer (some ⟨pb, po, none⟩), .int .i64 (D : Int)] W (SvPost W w.heap.size rb ro (vS r D p 0).1 (vS r D p 0).2)) := by
    intro m W hW hsz hS
    obtain ⟨n1, n2⟩ := prow_n hok h (Nat.le_refl _)
    exact sValue_c r D (by omega) p hok w.heap.size rb ro pb po pa sa pc sc W 0 hS (hr.below hW hrb) (by omega) (hp.below hW hpb) (by omega) (n1.below hW (Nat.le_refl _)) (n2.below hW (Nat.le_refl _)) (by omega) (by omega)
  have hvb := vS_bd r D p 0 hok (by omega)
  obtain ⟨v1, v2, v3⟩ := vS_eq r D p 0 (by omega)
  have HY : Hid (y = if (vS r D p 0).2 > 3000 then (0, 0, 5) else ((vS r D p 0).1, (vS r D p 0).2, 0)) := by
    unfold Hid
    have hs : srchC r p (D : Int) = if sizeT r D p > 3000 then 5 else 0 := by
      unfold srchC
      rw [if_pos hok, if_pos ⟨hd0, hd8⟩, Int.toNat_natCast]
    rw [hy, saskP, hs]
    by_cases hb : sizeT r D p > 3000
    · rw [if_pos hb, if_neg (by omega), if_pos (v2 (by omega))]
    · have h1 := v1 (by omega)
      rw [if_neg hb, if_pos rfl, h1, if_neg (by simp only; omega), Int.toNat_natCast]
      simp
  obtain ⟨v, hv⟩ : ∃ v, v = (vS r D p 0).1 := ⟨_, rfl⟩
  obtain ⟨n, hn⟩ : ∃ n, n = (vS r D p 0).2 := ⟨_, rfl⟩
  rw [← hv, ← hn] at HY HSV
  rw [← hn] at hvb
  obtain ⟨hb0, hb1, _, _⟩ := hvb
  clear hv hn v1 v2 v3 hcd hy hz hr hp h hok hrb hpb
  go_enter Try.func144, Try.ntmps144
  go_wp2_with fail
  refine HC.out.mono ?_
  rintro e w1 ⟨rfl, m, hm⟩
  have hz1 : w1.heap.size = w.heap.size := by rw [hm]; rfl
  have HB1 : Hid (Below w.heap.size w w1) := by unfold Hid; rw [hm]; exact below_draws _ _ _
  clear hm HC
  go_wp2_with fail
  refine (HSV.out 0 _ ?_ ?_ ?_).mono ?_
  rotate_left 3
  · rintro e w2 ⟨rfl, hB2, hC2⟩
    have HB2 : Hid (Below w.heap.size w w2) := hC2.below (below_next HB1.out (by first | exact below_alloc1 _ _ | exact (below_alloc1 _ _).drew)) (Nat.le_refl _)
    obtain ⟨z0, z1⟩ := (⟨hB2.c0, hB2.c1⟩ : _ ∧ _)
    clear hB2 hC2
    by_cases hn3 : n > 3000
    · have HE : Hid (y = (0, 0, 5)) := HY.out.trans (if_pos hn3)
      go_wp2
      go_ret3
      rw [HE.out]
      exact ⟨rfl, HB2.out⟩
    · have HE : Hid (y = (v, n, 0)) := HY.out.trans (if_neg hn3)
      go_wp2_with fail
      go_quiet (fail)
      go_wp2
      go_ret3
      rw [HE.out]
      exact ⟨rfl, HB2.out.trans (below_draws _ _ _)⟩
  · exact below_next HB1.out (below_alloc1 _ _)
  · simp [hz1]
  · rw [← hz1]
    exact ⟨by simp, by simp, by simp⟩

set_option maxRecDepth 100000 in
set_option maxHeartbeats 8000000 in
theorem sSearchValue_c (r : R) (p : P) (d : Int) (pa sa : Option Addr) (pc sc : Nat) (w : World) (h : PRow w p pa sa) (m1 : p.pits.length ≤ 16777216) (m2 : p.stores.length ≤ 16777216) :
    Calls Try.prog 62 #[r.val, p.val pa pc sa sc, .int .i64 d] w fun e w' => e = .returned (.tuple #[.int .i64 (svalP r p d).1, .int .i64 (svalP r p d).2]) ∧ Below w.heap.size w w' := by
  have F0 := ((Fr.start w).alloc r.cells 25).alloc (p.cells pa pc sa sc) 67
  have hr := R.boxc (F0.at 1 rfl)
  have hp : P.At _ (w.alloc (.cells r.cells 25)).heap.size 0 p pa pc sa sc := ⟨F0.at 0 rfl 0 _ rfl, F0.at 0 rfl 1 _ rfl, F0.at 0 rfl 2 _ rfl⟩
  simp only [World.size_alloc] at hp
  have HA := l15Ask_c _ _ _ _ r p d pa sa pc sc _ hr hp (h.below F0.below (Nat.le_refl _)) m1 m2
  obtain ⟨y, hy⟩ : ∃ y, y = saskP r p d := ⟨_, rfl⟩
  rw [← hy] at HA
  have HA := Lib.hid HA
  have HE : Hid (svalP r p d = (y.1, y.2.2)) := by
    unfold Hid
    rw [hy, svalP, saskP]
    split <;> rfl
  clear hr hp hy
  go_enter Try.func62, Try.ntmps62
  go_wp2_with fail
  refine HA.out.mono ?_
  rintro e w1 ⟨rfl, hb1⟩
  have F1 := F0.step hb1
  clear hb1 F0 HA
  go_wp2
  go_ret2
  rw [HE.out]
  exact ⟨rfl, F1.below⟩


end Go.Proofs.Ytbjdfgfebepacaa
