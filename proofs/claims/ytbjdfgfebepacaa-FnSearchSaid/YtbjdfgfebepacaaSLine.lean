/- SLine: the best line of a search, and the moves with their values (program). Each contract holds for every argument, under the premises that it states. -/
import Derived.Test.YtbjdfgfebepacaaOpts
namespace Go.Proofs.Ytbjdfgfebepacaa
set_option linter.unusedSimpArgs false
set_option linter.unusedVariables false
set_option linter.unnecessarySimpa false
open Go.RowKit Go.ChangeShapes Go.WideShapes Go.ChangeAt Go.Joins

/-! ### in plain terms -/
def lineB (r : R) : Nat → P → List Int
  | 0, _ => []
  | D + 1, p => match optsP r p D with
    | [] => []
    | o :: l => (bestGo l o).1 :: lineB r D (nxt (makeP r p (bestGo l o).1))
def slineP (r : R) (p : P) (d : Int) : List Int × Int := if srchC r p d = 0 then (lineB r d.toNat p, 0) else ([], srchC r p d)
def soptsP (r : R) (p : P) (d : Int) : List OP × Int := if ocodeP r p d = 0 then (optsP r p (d.toNat - 1), 0) else ([], ocodeP r p d)
theorem bestGo_mem : ∀ (l : List OP) (o : OP), bestGo l o ∈ o :: l
  | [], o => by simp [bestGo]
  | x :: l, o => by
    simp only [bestGo]
    split
    · exact List.mem_cons_of_mem _ (bestGo_mem l x)
    · rcases List.mem_cons.1 (bestGo_mem l o) with h | h
      · rw [h]; exact List.mem_cons_self ..
      · exact List.mem_cons_of_mem _ (List.mem_cons_of_mem _ h)
theorem best_of {r : R} {p : P} {D : Nat} {o : OP} {l : List OP} (h : optsP r p D = o :: l) : ∃ m : Nat, (bestGo l o).1 = (m : Int) ∧ (makeP r p m).code = 0 ∧ makeP r p m ∈ allP r p ∧ (bestGo l o).2 = moveV (makeP r p m) (valueP r D (nxt (makeP r p m))) := by
  have h1 := bestGo_mem l o
  rw [← h] at h1
  obtain ⟨x, hx, he⟩ := List.mem_map.1 h1
  obtain ⟨m, rfl, hc, hm⟩ := allP_of hx
  rw [← he]
  exact ⟨m, hm, hc, hx, rfl⟩
theorem lineB_cons {r : R} {p : P} {D : Nat} {o : OP} {l : List OP} (h : optsP r p D = o :: l) : lineB r (D + 1) p = (bestGo l o).1 :: lineB r D (nxt (makeP r p (bestGo l o).1)) := by
  rw [lineB, h]
theorem lineB_nil {r : R} {p : P} {D : Nat} (h : optsP r p D = []) : lineB r (D + 1) p = [] := by
  rw [lineB, h]
theorem lineB_len (r : R) : ∀ (D : Nat) (p : P), (lineB r D p).length ≤ D
  | 0, p => by simp [lineB]
  | D + 1, p => by
    cases h : optsP r p D with
    | nil => rw [lineB_nil h]; simp
    | cons o l =>
      rw [lineB_cons h, List.length_cons]
      have := lineB_len r D (nxt (makeP r p (bestGo l o).1))
      omega

/-! ### memory that a growing row leaves -/
theorem rowN_grown {w w' : World} {a : Option Addr} {xs : List Int} {row : Option Nat} (h : Ints w a xs) (hg : w.grownBy w' row) (hr : ∀ k, row = some k → ∀ b o t, a = some ⟨b, o, t⟩ → ¬ b = k) : Ints w' a xs := by
  intro j v hv
  obtain ⟨b, off, ha, hc⟩ := h j v hv
  refine ⟨b, off, ha, ?_⟩
  have hl := World.block_lt_of_cell? w _ hc
  exact cell_stab hc (hg.block b hl (fun e => hr b e.symm b off none ha rfl))
theorem LvP.grown {w w' : World} {B : Nat} {q : P} {qa ta : Option Addr} {qc tc : Nat} {row : Option Nat} (h : LvP w B q qa qc ta tc) (hg : w.grownBy w' row) (hB : ∀ k, row = some k → ¬ k = B)
    (hp : ∀ k, row = some k → ∀ b o t, qa = some ⟨b, o, t⟩ → ¬ b = k) (hs : ∀ k, row = some k → ∀ b o t, ta = some ⟨b, o, t⟩ → ¬ b = k) : LvP w' B q qa qc ta tc := by
  have hl : B < w.heap.size := World.block_lt_of_cell? w _ h.c0
  have hk : w'.heap[B]? = w.heap[B]? := hg.block B hl (fun e => hB B e.symm rfl)
  exact ⟨cell_stab h.c0 hk, cell_stab h.c1 hk, cell_stab h.c2 hk, fun o => (World.frozen?_of_block (w := w) hk).trans (h.fz o), ⟨rowN_grown h.p.1 hg hp, h.p.2⟩, ⟨rowN_grown h.s.1 hg hs, h.s.2⟩, h.m1, h.m2, h.hc, h.hcm⟩
/-- a round of the line -/
structure SlSt (w wr : World) (r : R) (tgt : List Int) (D : Nat) (acc : List Int) (oa : Option Addr) (oc : Nat) (q : P) (qa : Option Addr) (qc : Nat) (ta : Option Addr) (tc : Nat) : Prop where
  go : acc ++ lineB r D q = tgt
  dl : D + acc.length ≤ 8
  ok : q.ok r = true
  lv : LvP wr (w.heap.size + 1) q qa qc ta tc
  rx : BoxP w.heap.size r.cells.toList wr
  own : OwnI wr (w.heap.size + 1 + 1) oa oc acc
  nq : ∀ k, (Value.slice oa acc.length oc).ownBlock = some k → ∀ b o t, qa = some ⟨b, o, t⟩ → ¬ b = k
  nt : ∀ k, (Value.slice oa acc.length oc).ownBlock = some k → ∀ b o t, ta = some ⟨b, o, t⟩ → ¬ b = k
  below : Below w.heap.size w wr

def OptRes2 (w : World) (y : List OP × Int) (e : Ending) (w' : World) : Prop := ∃ (ad : Option Addr) (c : Nat), e = .returned (.tuple #[.slice ad y.1.length c, .int .i64 y.2]) ∧ OptOwn w' w.heap.size ad c y.1 ∧ Below w.heap.size w w'
set_option maxRecDepth 100000 in
set_option maxHeartbeats 8000000 in
theorem iSearchOptions_c (r : R) (p : P) (d : Int) (pa sa : Option Addr) (pc sc : Nat) (w : World) (h : PRow w p pa sa) (m1 : p.pits.length ≤ 16777216) (m2 : p.stores.length ≤ 16777216) (hc : p.pits.length ≤ pc) (hcm : pc ≤ maxLen) :
    Calls Try.prog 67 #[r.val, p.val pa pc sa sc, .int .i64 d] w (OptRes2 w (soptsP r p d)) := by
  have F0 := ((Fr.start w).alloc r.cells 25).alloc (p.cells pa pc sa sc) 67
  have HC := fun W (H : PRow W p pa sa) => optionsCode_c r p d pa sa pc sc W H m1 m2 hc hcm
  obtain ⟨c, hcd⟩ : ∃ c, c = ocodeP r p d := ⟨_, rfl⟩
  rw [← hcd] at HC
  have HC := Lib.hid HC
  obtain ⟨y, hy⟩ : ∃ y, y = soptsP r p d := ⟨_, rfl⟩
  rw [← hy]
  by_cases hz : c = 0
  case neg =>
    have hz' : (c != 0) = true := by simpa using hz
    have HE : Hid (y = ([], c)) := by unfold Hid; rw [hy, soptsP, ← hcd, if_neg hz]
    clear hcd hy hz
    go_enter Try.func67, Try.ntmps67
    go_wp2_with fail
    refine (HC.out _ (h.below F0.below (Nat.le_refl _))).mono ?_
    rintro e w1 ⟨rfl, hb1⟩
    have F1 := F0.step hb1
    clear hb1 F0
    go_wp2
    go_ret2
    rw [HE.out]
    exact ⟨none, 0, rfl, World.ownsRow_nil _ _ _ _, F1.below⟩
  have hz' : (c != 0) = false := by simpa using hz
  obtain ⟨hok, hsc, D, hdD, hD, _⟩ := ocodeP_zero (by rw [← hcd]; exact hz)
  have HO := fun W (H : PRow W p pa sa) => options_c r p hok D hD pa sa pc sc W H hc hcm
  rw [← hdD] at HO
  have HY : Hid (y = (optsP r p D, 0)) := by
    unfold Hid
    rw [hy, soptsP, ← hcd, if_pos hz, hdD, show ((D : Int) + 1).toNat - 1 = D by omega]
  obtain ⟨os, hos⟩ : ∃ os, os = optsP r p D := ⟨_, rfl⟩
  rw [← hos] at HO HY
  have HO := Lib.hid HO
  clear hcd hy hz hok hsc hdD hos
  go_enter Try.func67, Try.ntmps67
  go_wp2_with fail
  refine (HC.out _ (h.below F0.below (Nat.le_refl _))).mono ?_
  rintro e w1 ⟨rfl, hb1⟩
  have F1 := F0.step hb1
  obtain ⟨c0, c1, c2, c3, c4, c5, c6, c7, c8⟩ := R.boxc (F1.at 1 rfl)
  obtain ⟨e0, e1, e2⟩ := P.boxc (F1.at 0 rfl)
  have zA : w.heap.size < w1.heap.size := F1.le 1 rfl
  have zB : w.heap.size + 1 < w1.heap.size := by have := F1.le 0 rfl; simp at this; omega
  simp only [World.size_alloc] at e0 e1 e2
  clear hb1 F0
  go_wp2_with fail
  refine (HO.out _ (h.below F1.below (Nat.le_refl _))).mono ?_
  rintro e w2 ⟨ad, cc, rfl, ho, hb2⟩
  have HB2 := Lib.hid (F1.step hb2).below
  have HO2 : Hid (OptOwn w2 w.heap.size ad cc os) := ownsRow_le ho (by omega)
  clear hb2 F1 ho c0 c1 c2 c3 c4 c5 c6 c7 c8 e0 e1 e2 zA zB
  go_wp2
  go_ret2
  rw [HY.out]
  exact ⟨ad, cc, rfl, HO2.out, HB2.out⟩

set_option maxRecDepth 100000 in
set_option maxHeartbeats 16000000 in
theorem iSearchLine_c (r : R) (p : P) (d : Int) (pa sa : Option Addr) (pc sc : Nat) (w : World) (h : PRow w p pa sa) (m1 : p.pits.length ≤ 16777216) (m2 : p.stores.length ≤ 16777216) (hc : p.pits.length ≤ pc) (hcm : pc ≤ maxLen) :
    Calls Try.prog 69 #[r.val, p.val pa pc sa sc, .int .i64 d] w (IntsRes2 w (slineP r p d)) := by
  obtain ⟨i0, hi, hz0, hz1, hz2⟩ := info_parts infoI
  have F0 := ((Fr.start w).alloc r.cells 25).allocF (p.cells pa pc sa sc) 67
  simp only [World.size_alloc] at F0
  have HC := fun W (H : PRow W p pa sa) => searchCode_c r p d pa sa pc sc W H m1 m2 hc hcm
  obtain ⟨c, hcd⟩ : ∃ c, c = srchC r p d := ⟨_, rfl⟩
  rw [← hcd] at HC
  have HC := Lib.hid HC
  obtain ⟨y, hy⟩ : ∃ y, y = slineP r p d := ⟨_, rfl⟩
  rw [← hy]
  by_cases hz : c = 0
  case neg =>
    have hz' : (c != 0) = true := by simpa using hz
    have HE : Hid (y = ([], c)) := by unfold Hid; rw [hy, slineP, ← hcd, if_neg hz]
    clear hcd hy hz
    go_enter Try.func69, Try.ntmps69
    go_wp2_with fail
    refine (HC.out _ (h.below F0.below (Nat.le_refl _))).mono ?_
    rintro e w1 ⟨rfl, hb1⟩
    have F1 := F0.step hb1
    clear hb1 F0
    go_wp2
    go_ret2
    rw [HE.out]
    exact ⟨none, 0, rfl, World.ownsRow_nil _ _ _ _, F1.below⟩
  have hz' : (c != 0) = false := by simpa using hz
  obtain ⟨hok, D, hdD, hD, _⟩ := srchC_zero (by rw [← hcd]; exact hz)
  have HY : Hid (y = (lineB r D p, 0)) := by
    unfold Hid
    rw [hy, slineP, ← hcd, if_pos hz, hdD, show ((D : Int)).toNat = D by omega]
  obtain ⟨tgt, ht⟩ : ∃ t, t = lineB r D p := ⟨_, rfl⟩
  rw [← ht] at HY
  have HDD := Lib.hid hdD
  have HPL : Hid (0 < p.pits.length ∧ 0 < p.stores.length) := by
    obtain ⟨hbd, _, t, hB, _, _⟩ := P.ok_parts hok
    have := hbd.lo; have := hB.lp; have := hB.ls
    unfold Hid; omega
  have HOK := Lib.hid hok
  have HT := Lib.hid ht
  have HH := Lib.hid h
  clear hcd hy hz hok hdD ht h
  go_enter Try.func69, Try.ntmps69
  go_wp2_with fail
  refine (HC.out _ (HH.out.below F0.below (Nat.le_refl _))).mono ?_
  rintro e w1 ⟨rfl, hb1⟩
  have F1 := F0.step hb1
  have O0 := own_none w1 (w.heap.size + 1 + 1) (by have := F1.le 0 rfl; simpa using this)
  have F2 := F1.step (below_alloc1 w1 (.cells #[] 2))
  obtain ⟨bx, bf⟩ := F2.at 0 rfl
  have zB1 : w.heap.size + 1 < w1.heap.size := by have := F1.le 0 rfl; simp at this; omega
  have hkz : ∀ k, (Value.slice (some ⟨w1.heap.size, 0, none⟩) ([] : List Int).length 0).ownBlock = some k → w.heap.size + 1 ≤ k := by
    intro k hk
    have : w1.heap.size = k := by simpa [Value.ownBlock] using hk
    omega
  have hlow : ∀ (a : Option Addr) (xs : List Int), Ints w a xs → 0 < xs.length → ∀ k, w.heap.size + 1 ≤ k → ∀ b o t, a = some ⟨b, o, t⟩ → ¬ b = k := by
    intro a xs hx hp k hk b o t ha e
    obtain ⟨b', o', ha', hb', _⟩ := Ints.open hx hp
    rw [ha'] at ha
    cases ha
    omega
  have hst0 : Hid (SlSt w (w1.alloc (.cells #[] 2)) r tgt D [] (some ⟨w1.heap.size, 0, none⟩) 0 p pa pc sa sc) :=
    ⟨by rw [HT.out]; rfl, by simpa using hD, HOK.out, ⟨bx 0 _ rfl, bx 1 _ rfl, bx 2 _ rfl, bf, (arg_rowN HH.out.pits HPL.out.1 (Nat.le_succ _)).below F2.below (Nat.le_refl _), (arg_rowN HH.out.stores HPL.out.2 (Nat.le_succ _)).below F2.below (Nat.le_refl _), m1, m2, hc, hcm⟩, F2.at 1 rfl, O0,
      fun k hk => hlow pa _ HH.out.pits HPL.out.1 k (hkz k hk), fun k hk => hlow sa _ HH.out.stores HPL.out.2 k (hkz k hk), F2.below⟩
  clear hb1 F0 F1 F2 O0 bx bf zB1 hkz hlow HT HH HC
  go_wp2_with fail
  go_loopw [2, 9] (fun dd o wr => ∃ (D : Nat) (dI : Int) (acc : List Int) (oa : Option Addr) (oc : Nat) (q : P) (qa ta : Option Addr) (qc tc : Nat), dd = .int .i64 dI ∧ Hid (dI = (D : Int)) ∧ o = .slice oa acc.length oc ∧ SlSt w wr r tgt D acc oa oc q qa qc ta tc) (fun dd _ _ => (intOf dd).toNat)
  case atStart => exact ⟨D, d, [], _, 0, p, pa, sa, pc, sc, rfl, HDD, rfl, hst0.out⟩
  case round =>
    clear hst0 HDD HPL HOK
    obtain ⟨D, dI, acc, oa, oc, q, qa, ta, qc, tc, rfl, HDI, rfl, hst⟩ := hrel
    have HST := Lib.hid hst
    have hdl := hst.dl
    clear hst
    cases D with
    | zero =>
      have hd0 : ¬ dI > 0 := by have := HDI.out; omega
      have HA : Hid (acc = tgt) := by
        have := HST.out.go
        rw [lineB, List.append_nil] at this
        exact this
      go_wp2
      go_ret2
      rw [HY.out]
      have hA := HA.out
      subst hA
      exact ⟨oa, oc, rfl, ownsRow_le HST.out.own (by omega), HST.out.below⟩
    | succ D =>
      have hd0 : dI > 0 := by have := HDI.out; omega
      have hal : acc.length ≤ 8 := by omega
      have hDI : dI = (D : Int) + 1 := by have := HDI.out; omega
      obtain ⟨c0, c1, c2, c3, c4, c5, c6, c7, c8⟩ := R.boxc HST.out.rx
      obtain ⟨d0, d1, d2⟩ := (⟨HST.out.lv.c0, HST.out.lv.c1, HST.out.lv.c2⟩ : _ ∧ _ ∧ _)
      have HO := options_c r q HST.out.ok D (by omega) qa ta qc tc wr ⟨HST.out.lv.p.1, HST.out.lv.s.1⟩ HST.out.lv.hc HST.out.lv.hcm
      rw [← hDI] at HO
      have hol := optsP_len HST.out.ok D
      obtain ⟨os, hos⟩ : ∃ os, os = optsP r q D := ⟨_, rfl⟩
      rw [← hos] at HO hol
      have HOS := Lib.hid hos
      have HO := Lib.hid HO
      have HDI2 := Lib.hid hDI
      have hw1 : w.heap.size + 1 < wr.heap.size := World.block_lt_of_cell? wr _ d0
      clear hos hDI HDI
      go_wp2_with fail
      refine HO.out.mono ?_
      rintro e w2 ⟨ad, cc, rfl, ho, hb2⟩
      have HB2 := Lib.hid hb2
      clear hb2 c0 c1 c2 c3 c4 c5 c6 c7 c8 d0 d1 d2 HO
      cases os with
      | nil =>
        have HA : Hid (acc = tgt) := by
          have := HST.out.go
          rw [lineB_nil HOS.out.symm, List.append_nil] at this
          exact this
        have HBW := Lib.hid (below_next HST.out.below HB2.out)
        have HOW : Hid (OwnI w2 w.heap.size oa oc acc) := ownsRow_le (own_below HST.out.own HB2.out (Nat.le_refl _)) (by omega)
        clear ho
        go_wp2
        go_ret2
        rw [HY.out]
        have hA := HA.out
        subst hA
        exact ⟨oa, oc, rfl, HOW.out, HBW.out⟩
      | cons o l =>
        obtain ⟨g, rfl, hg0, hg1, hcs⟩ := opt_cells ho (by simp)
        have hrow : BoxP g (ocells (o :: l)) w2 := by
          intro j v hv
          have hl := ocells_len (o :: l)
          have hj : j < (o :: l).length * 2 := by
            rcases Nat.lt_or_ge j ((o :: l).length * 2) with h | h
            · exact h
            · rw [List.getElem?_eq_none (by omega)] at hv; cases hv
          rw [ho.cellAt j hj]
          exact hv
        have HB := Lib.hid (bestOption_c (o :: l) o l rfl g cc w2 hrow hg1 (by omega))
        have hln : (((o :: l).length : Int) == 0) = false := by simp; omega
        obtain ⟨n, hn⟩ : ∃ n, n = (o :: l).length := ⟨_, rfl⟩
        rw [← hn] at HB hln ⊢
        obtain ⟨bm, hbm, hbc, hba, _⟩ := best_of HOS.out.symm
        have HGO : Hid (acc ++ [(bestGo l o).1] ++ lineB r D (nxt (makeP r q (bestGo l o).1)) = tgt) := by
          have := HST.out.go
          rw [lineB_cons HOS.out.symm] at this
          unfold Hid
          rw [List.append_assoc]
          exact this
        have HVAL : Hid ((nxt (makeP r q (bestGo l o).1)).ok r = true) := by unfold Hid; rw [hbm]; exact allP_valid hba
        have HCOD : Hid ((makeP r q (bestGo l o).1).code = 0) := by unfold Hid; rw [hbm]; exact hbc
        obtain ⟨b1, hb1⟩ : ∃ b, b = (bestGo l o).1 := ⟨_, rfl⟩
        obtain ⟨b2, hb2⟩ : ∃ b, b = (bestGo l o).2 := ⟨_, rfl⟩
        rw [← hb1, ← hb2] at HB
        rw [← hb1] at HGO HVAL HCOD
        clear ho hcs hrow hn hbm hbc hba hb1 hb2 HOS hol
        go_wp2_with fail
        refine HB.out.mono ?_
        rintro e w3 ⟨rfl, hb3⟩
        have HB3 := Lib.hid (below_next HB2.out hb3)
        clear hb3 HB hg0 hg1
        have hown : OwnI w3 (w.heap.size + 1 + 1) oa oc acc := own_below HST.out.own HB3.out (Nat.le_refl _)
        unfold OwnI at hown
        have hs3 : wr.heap.size ≤ w3.heap.size := HB3.out.size
        go_wp2_with (at_builtin; refine wpList_append_own2 _ rfl _ _ 51 rfl (w.heap.size + 1 + 1) 2 i0 (.int .i64 0) 1 8 Try.underlying51 hi hz0 hz1 hz2 rfl (by decide) _ _ _ rfl ((hown.alloc _).alloc _) ⟨w3.heap.size + 1, 0, none⟩ 1 1 [.int .i64 b1] rfl rfl (by intro j u hu; match j, hu with | 0, hu => (simp at hu; subst hu; simp [Addr.add])) (by intro u hu; simp at hu; subst hu; rfl) (by unfold maxLen; omega) (by omega) (by simp <;> omega) ?_)
        intro ad' c' w4 hown4 hg4 hn4
        have hB5 : Below w3.heap.size w3 ((w3.alloc (.cells #[.int .i64 b1, .int .i64 b2] 93)).alloc (.cells #[.int .i64 b1] 2)) := below_alloc2 _ _ _
        have hB6 := below_next HB3.out hB5
        have hnk : ∀ k, (Value.slice oa acc.length oc).ownBlock = some k → w.heap.size + 1 + 1 ≤ k := fun k hk => (HST.out.own.lt k hk).1
        have HL4 : Hid (LvP w4 (w.heap.size + 1) q qa qc ta tc) := (HST.out.lv.below hB6).grown hg4 (fun k hk e => by have := hnk k hk; omega) HST.out.nq HST.out.nt
        have HR4 : Hid (BoxP w.heap.size r.cells.toList w4) := (HST.out.rx.below hB6).grown hg4 (fun e => by have := hnk _ e; omega) (Nat.lt_of_lt_of_le (by omega) hB6.size)
        have HO4 : Hid (w4.cell? ⟨w3.heap.size, 0, none⟩ = some (.int .i64 b1)) := by
          have h1 : ((w3.alloc (.cells #[.int .i64 b1, .int .i64 b2] 93)).alloc (.cells #[.int .i64 b1] 2)).cell? ⟨w3.heap.size, 0, none⟩ = some (.int .i64 b1) := by simp
          refine cell_stab h1 (hg4.block w3.heap.size (by simp; omega) (fun e => ?_))
          have := (HST.out.own.lt _ e.symm).2
          omega
        have HW4 : Hid (Below w.heap.size w w4) := below_grown (below_next HST.out.below hB6) hg4 (fun k hk => by have := hnk k hk; omega)
        have HA4 : Hid (OwnI w4 (w.heap.size + 1 + 1) ad' c' (acc ++ [b1])) := by unfold Hid OwnI; simpa using hown4
        have HZ4 : Hid (∀ k, (Value.slice ad' (acc ++ [b1]).length c').ownBlock = some k → k < w4.heap.size) := fun k hk => (HA4.out.lt k hk).2
        have HS4 : Hid (w3.heap.size < w4.heap.size ∧ w.heap.size + 1 < w4.heap.size) := by
          have := hg4.size
          simp at this
          unfold Hid
          omega
        clear hown4 hg4 hn4 hown hnk hB5 hB6
        obtain ⟨hz4a, hz4b⟩ := HS4.out
        have hz4c : w.heap.size < w4.heap.size := by omega
        obtain ⟨c0, c1, c2, c3, c4, c5, c6, c7, c8⟩ := R.boxc HR4.out
        obtain ⟨d0, d1, d2⟩ := (⟨HL4.out.c0, HL4.out.c1, HL4.out.c2⟩ : _ ∧ _ ∧ _)
        have ho4 := HO4.out
        obtain ⟨z, hz⟩ : ∃ z, z = makeP r q b1 := ⟨_, rfl⟩
        have HRS := resultOf_c r q b1 qa ta qc tc w4 ⟨HL4.out.p.1, HL4.out.s.1⟩ HL4.out.m1 HL4.out.m2 HL4.out.hc HL4.out.hcm
        have hgn := makeP_gain HCOD.out
        rw [← hz] at HRS HGO HVAL HCOD hgn
        have HRS := Lib.hid HRS
        have HGN := Lib.hid hgn
        clear hz hgn
        go_wp2_with fail
        refine HRS.out.mono ?_
        rintro e w5 ⟨ua, uc, va, vc, rfl, ho5, hb5⟩
        have hs5 := hb5.size
        have L5 := HL4.out.below hb5
        have HW5 := Lib.hid (below_next HW4.out hb5)
        have HR5 := Lib.hid (HR4.out.below hb5)
        have HA5 : Hid (OwnI w5 (w.heap.size + 1 + 1) ad' c' (acc ++ [b1])) := own_below HA4.out hb5 (Nat.le_refl _)
        have HL5 := Lib.hid L5
        have HO5 := Lib.hid ho5
        have hfz := L5.fz
        clear c0 c1 c2 c3 c4 c5 c6 c7 c8 d0 d1 d2 ho4 HRS hb5 L5
        obtain ⟨d0, d1, d2⟩ := (⟨HL5.out.c0, HL5.out.c1, HL5.out.c2⟩ : _ ∧ _ ∧ _)
        have hw5 : w.heap.size + 1 < w5.heap.size := by omega
        have hw5a : w.heap.size < w5.heap.size := by omega
        have hwr : IntKind.i64.wrap (dI - 1) = dI - 1 := IntWalk.i64_in _ (by have := HDI2.out; omega)
        clear ho5
        go_wp2
        go_roundw
        case rel =>
          obtain ⟨_, _, g2, g3⟩ := HGN.out
          have L6 := HL5.out.store (y := ⟨z.pits, z.stores, z.player⟩) HO5.out (by omega) g2 g3
          have R6 := (((HR5.out.set (B := w.heap.size + 1) (by omega) 0 (.slice ua z.pits.length uc)).set (B := w.heap.size + 1) (by omega) 1 (.slice va z.stores.length vc)).set (B := w.heap.size + 1) (by omega) 2 (.int .i64 z.player))
          have A6 : OwnI (((w5.setCell ⟨w.heap.size + 1, 0, none⟩ (.slice ua z.pits.length uc)).setCell ⟨w.heap.size + 1, 1, none⟩ (.slice va z.stores.length vc)).setCell ⟨w.heap.size + 1, 2, none⟩ (.int .i64 z.player)) (w.heap.size + 1 + 1) ad' c' (acc ++ [b1]) :=
            ownsRow_setCell_below (ownsRow_setCell_below (ownsRow_setCell_below HA5.out (Nat.lt_succ_self _) _) (Nat.lt_succ_self _) _) (Nat.lt_succ_self _) _
          have n1 : ∀ k, (Value.slice ad' (acc ++ [b1]).length c').ownBlock = some k → ∀ b o t, ua = some ⟨b, o, t⟩ → ¬ b = k := fun k hk b o t e hbk => by
            have h1 := HZ4.out k hk
            subst e
            have h2 := (HO5.out.pits.lt b rfl).1
            omega
          have n2 : ∀ k, (Value.slice ad' (acc ++ [b1]).length c').ownBlock = some k → ∀ b o t, va = some ⟨b, o, t⟩ → ¬ b = k := fun k hk b o t e hbk => by
            have h1 := HZ4.out k hk
            subst e
            have h2 := (HO5.out.stores.lt b rfl).1
            omega
          refine ⟨D, dI - 1, acc ++ [b1], ad', c', ⟨z.pits, z.stores, z.player⟩, ua, va, uc, vc, by go_num, by have := HDI2.out; unfold Hid; omega, by simp, HGO.out, by simp; omega, HVAL.out, L6.below (below_alloc1 _ _), R6.below (below_alloc1 _ _), A6.alloc _, n1, n2, ?_⟩
          have BW5 := HW5.out
          repeat (first | (with_reducible exact BW5) | ((with_reducible refine Below.alloc ?_ ?_ _); rotate_left; (first | omega | (simp <;> omega))) | ((with_reducible refine Below.setCell ?_ ?_ _); rotate_left; (simp <;> omega)))
        case measure => (simp [intOf]; omega)
end Go.Proofs.Ytbjdfgfebepacaa
