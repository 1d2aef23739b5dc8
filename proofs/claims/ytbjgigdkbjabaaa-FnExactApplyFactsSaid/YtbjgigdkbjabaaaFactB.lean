/- FactB: facts of moves, done one after the other: the program's functions. Each contract holds for every argument, under the premises that it states. -/
import Derived.Test.YtbjgigdkbjabaaaFactA
import Derived.Test.YtbjgigdkbjabaaaLap
import Derived.StillTailTactics
import Derived.Deep.RegionLaw
namespace Go.Proofs.Ytbjgigdkbjabaaa
set_option linter.unusedSimpArgs false
set_option linter.unusedVariables false
set_option linter.unnecessarySimpa false
open Go.RowKit Go.ChangeShapes Go.WideShapes Go.ChangeAt Go.Joins

/-- the position that is worked on, and the hand -/
structure AfP (base : Nat) (w : World) (B pg pc sg sc H : Nat) (s : P × Int) : Prop where
  sn : SnI base w B 0 pg pc sg sc s.1.pits s.1.stores
  c2 : w.cell? ⟨B, 2, none⟩ = some (.int .i64 s.1.player)
  fz : ∀ o, w.frozen? ⟨B, o, none⟩ = false
  hc : w.cell? ⟨H, 0, none⟩ = some (.int .i64 s.2)
  hf : w.frozen? ⟨H, 0, none⟩ = false
  hH : base ≤ H
  n1 : ¬ H = B
  n2 : ¬ H = pg
  n3 : ¬ H = sg
theorem AfP.lH {base : Nat} {w : World} {B pg pc sg sc H : Nat} {s : P × Int} (h : AfP base w B pg pc sg sc H s) : H < w.heap.size := World.block_lt_of_cell? w _ h.hc
theorem AfP.lB {base : Nat} {w : World} {B pg pc sg sc H : Nat} {s : P × Int} (h : AfP base w B pg pc sg sc H s) : B < w.heap.size := h.sn.lt
theorem AfP.below {base : Nat} {w w' : World} {B pg pc sg sc H : Nat} {s : P × Int} (h : AfP base w B pg pc sg sc H s) (hb : Below w.heap.size w w') : AfP base w' B pg pc sg sc H s := by
  have g := grown_below hb none
  have eB := g.block B h.lB (by simp)
  have eH := g.block H h.lH (by simp)
  exact ⟨h.sn.below hb, cell_stab h.c2 eB, fun o => (World.frozen?_of_block (w := w) eB).trans (h.fz o), cell_stab h.hc eH, (World.frozen?_of_block (w := w) eH).trans h.hf, h.hH, h.n1, h.n2, h.n3⟩
theorem AfP.pit {base : Nat} {w : World} {B pg pc sg sc H : Nat} {p : P} {n : Int} (h : AfP base w B pg pc sg sc H (p, n)) (i : Nat) (v : Int) : AfP base (w.setCell ⟨pg, i, none⟩ (.int .i64 v)) B pg pc sg sc H (⟨p.pits.set i v, p.stores, p.player⟩, n) :=
  ⟨h.sn.pit i v, (cell_other (fun e => h.sn.n2 e.symm)).trans h.c2, fun o => by simpa using h.fz o, (cell_other h.n2).trans h.hc, by simpa using h.hf, h.hH, h.n1, h.n2, h.n3⟩
theorem AfP.sto {base : Nat} {w : World} {B pg pc sg sc H : Nat} {p : P} {n : Int} (h : AfP base w B pg pc sg sc H (p, n)) (i : Nat) (v : Int) : AfP base (w.setCell ⟨sg, i, none⟩ (.int .i64 v)) B pg pc sg sc H (⟨p.pits, p.stores.set i v, p.player⟩, n) :=
  ⟨h.sn.sto i v, (cell_other (fun e => h.sn.n3 e.symm)).trans h.c2, fun o => by simpa using h.fz o, (cell_other h.n3).trans h.hc, by simpa using h.hf, h.hH, h.n1, h.n2, h.n3⟩
theorem AfP.play {base : Nat} {w : World} {B pg pc sg sc H : Nat} {p : P} {n : Int} (h : AfP base w B pg pc sg sc H (p, n)) (v : Int) : AfP base (w.setCell ⟨B, 2, none⟩ (.int .i64 v)) B pg pc sg sc H (⟨p.pits, p.stores, v⟩, n) :=
  ⟨h.sn.fld 2 _ (by omega), World.cell?_setCell_same _ _ _ h.c2, fun o => by simpa using h.fz o, (cell_other h.n1).trans h.hc, by simpa using h.hf, h.hH, h.n1, h.n2, h.n3⟩
theorem AfP.hand {base : Nat} {w : World} {B pg pc sg sc H : Nat} {p : P} {n : Int} (h : AfP base w B pg pc sg sc H (p, n)) (v : Int) : AfP base (w.setCell ⟨H, 0, none⟩ (.int .i64 v)) B pg pc sg sc H (p, v) := by
  have e : (Value.slice (some ⟨pg, 0, none⟩) p.pits.length pc).ownBlock ≠ some H := fun e => by simp [Value.ownBlock] at e; exact h.n2 e.symm
  have e' : (Value.slice (some ⟨sg, 0, none⟩) p.stores.length sc).ownBlock ≠ some H := fun e => by simp [Value.ownBlock] at e; exact h.n3 e.symm
  refine ⟨⟨(cell_other (fun e => h.n1 e.symm)).trans h.sn.c0, (cell_other (fun e => h.n1 e.symm)).trans h.sn.c1, ?_, ?_, h.sn.nb0, h.sn.n1, h.sn.n2, h.sn.n3⟩, (cell_other (fun e => h.n1 e.symm)).trans h.c2, fun o => by simpa using h.fz o, World.cell?_setCell_same _ _ _ h.hc, by simpa using h.hf, h.hH, h.n1, h.n2, h.n3⟩
  · exact ownsRow_setCell_other h.sn.op e _
  · exact ownsRow_setCell_other h.sn.os e' _

set_option maxRecDepth 100000 in
set_option maxHeartbeats 16000000 in
theorem apply_c (r : R) (T : Int) (s : P × Int) (f : Fc) (base B pg pc sg sc H : Nat) (w : World) (h : AfP base w B pg pc sg sc H s) (ai : AI r T s) (hT : T ≤ 1000000) :
    Calls Try.prog 62 #[r.val, .pointer (some ⟨B, 0, none⟩), .pointer (some ⟨H, 0, none⟩), f.val] w fun e w' => Below base w w' ∧
      (stepF r s f = none ∧ e = .returned (.bool false) ∨ ∃ s', stepF r s f = some s' ∧ e = .returned (.bool true) ∧ AfP base w' B pg pc sg sc H s') := by
  obtain ⟨⟨pits, stores, player⟩, hand⟩ := s
  obtain ⟨k, pl, c⟩ := f
  obtain ⟨pn, hpn, hpn1⟩ : ∃ pn : Nat, player = (pn : Int) ∧ pn ≤ 1 := ⟨player.toNat, by have := ai.pl; simp only at this; omega, by have := ai.pl; simp only at this; omega⟩
  subst hpn
  have HBW : base ≤ w.heap.size := Nat.le_trans h.sn.nb0 (Nat.le_of_lt h.lB)
  have F0 := ((Fr.start w).alloc r.cells 33).alloc (Fc.cells ⟨k, pl, c⟩) 95
  have HC1 := fun W => canWrite_c ⟨k, pl, c⟩ W
  have HC2 := fun W => hasPlace_c r ⟨k, pl, c⟩ W ai.hr
  cases hcw : Fc.canW ⟨k, pl, c⟩
  · have HS := Lib.hid (show stepF r (⟨pits, stores, pn⟩, hand) ⟨k, pl, c⟩ = none by simp [stepF, hcw])
    rw [hcw] at HC1
    clear ai hcw HC2 h
    go_enter Try.func62, Try.ntmps62
    go_wp2_with fail
    refine (HC1 _).mono ?_
    rintro e w1 ⟨rfl, hb1⟩
    have HB := Lib.hid ((F0.step hb1).below.mono HBW)
    clear hb1 F0 HC1
    go_wp2
    go_ret
    exact ⟨HB.out, .inl ⟨HS.out, rfl⟩⟩
  cases hhp : Fc.here r ⟨k, pl, c⟩
  · have HS := Lib.hid (show stepF r (⟨pits, stores, pn⟩, hand) ⟨k, pl, c⟩ = none by simp [stepF, hhp])
    rw [hcw] at HC1
    rw [hhp] at HC2
    clear ai hcw hhp h
    go_enter Try.func62, Try.ntmps62
    go_wp2_with fail
    refine (HC1 _).mono ?_
    rintro e w1 ⟨rfl, hb1⟩
    have F1 := F0.step hb1
    obtain ⟨c0, c1, c2, c3, c4, c5, c6, c7, c8⟩ := R.boxc (F1.at 1 rfl)
    obtain ⟨d0, d1, d2⟩ := (⟨F1.at 0 rfl 0 _ rfl, F1.at 0 rfl 1 _ rfl, F1.at 0 rfl 2 _ rfl⟩ : _ ∧ _ ∧ _)
    simp only [World.size_alloc] at d0 d1 d2
    have zA : w.heap.size < w1.heap.size := F1.le 1 rfl
    have zB : w.heap.size + 1 < w1.heap.size := by have := F1.le 0 rfl; simp at this; omega
    clear hb1 F0
    go_wp2_with fail
    refine (HC2 _).mono ?_
    rintro e w2 ⟨rfl, hb2⟩
    have HB := Lib.hid ((F1.step hb2).below.mono HBW)
    clear hb2 F1 HC1 HC2 c0 c1 c2 c3 c4 c5 c6 c7 c8
    go_wp2
    go_ret
    exact ⟨HB.out, .inl ⟨HS.out, rfl⟩⟩
  have hcw' := hcw
  have hhp' := hhp
  rw [hcw] at HC1
  rw [hhp] at HC2
  have hk := canW_kinds hcw
  have hlp := ai.lp
  have hls := ai.ls
  have h0 := ai.h0
  have h1 := ai.h1
  have hbp := ai.bp
  have hbs := ai.bs
  have hpits := ai.hr
  simp only at hlp hls h0 h1 hbp hbs hk
  have hST : stepF r (⟨pits, stores, pn⟩, hand) ⟨k, pl, c⟩ = (if k = 2 then
    if hand < c then none
    else if pl < 0 then some (⟨pits, addAt stores pn c, pn⟩, hand - c)
    else some (⟨addAt pits pl c, stores, pn⟩, hand - c)
  else if ¬ hand = 0 then none
  else if k = 1 then (if pits.getD pl.toNat 0 = c then some (⟨pits.set pl.toNat 0, stores, pn⟩, c) else none)
  else if k = 3 then (if pits.getD pl.toNat 0 = c then some (⟨pits.set pl.toNat 0, addAt stores pn c, pn⟩, 0) else none)
  else if k = 6 then some (⟨pits, stores, 1 - pn⟩, 0)
  else some (⟨pits, stores, pn⟩, 0)) := by
    simp only [stepF, hcw, hhp, Bool.and_self, Bool.true_eq_false, if_false]
  have hHP : k = 5 ∨ k = 6 ∨ (0 ≤ pl ∧ pl < pits.length) ∨ pl = -1 := by
    simp only [Fc.here, Bool.or_eq_true, Bool.and_eq_true, decide_eq_true_eq] at hhp
    rcases hhp with (h | h) | (h | h)
    · exact .inl h
    · exact .inr (.inl h)
    · have h := inB_iff.1 h
      exact .inr (.inr (.inl ⟨h.1, by omega⟩))
    · exact .inr (.inr (.inr h.1))
  clear hcw hhp hcw' hhp' ai
  obtain ⟨y, hy⟩ : ∃ y, y = stores.getD pn 0 := ⟨_, rfl⟩
  have hsl : pn < stores.length := by omega
  have hyb : 0 ≤ y ∧ y ≤ T := by rw [hy, List.getD_eq_getElem?_getD, List.getElem?_eq_getElem hsl]; exact hbs _ (List.getElem_mem hsl)
  obtain ⟨y0, yT⟩ := hyb
  have hadd : addAt stores pn c = stores.set pn (y + c) := by rw [hy]; simp [addAt]
  rw [hadd] at hST
  have hy' : stores[pn]? = some y := by rw [hy]; simp [hsl]
  have HY := Lib.hid hy'
  have HSL := Lib.hid hls
  clear hadd hy hy' hbs hls hlp hpits
  have hslI : (pn : Int) < (stores.length : Int) := by omega
  by_cases k2 : k = 2
  · subst k2
    have hc : 1 ≤ c ∧ c ≤ 96 := by rcases hk with ⟨h3, _⟩ | ⟨_, h3, h4, _⟩ <;> omega
    obtain ⟨hc1, hc9⟩ := hc
    rw [if_pos rfl] at hST
    clear hk
    by_cases hlt : hand < c
    · have HS := Lib.hid (hST.trans (if_pos hlt))
      clear hST hHP hbp
      by_cases hh : hand = 0
      · subst hh

        go_enter Try.func62, Try.ntmps62
        go_wp2_with fail
        refine (HC1 _).mono ?_
        rintro e w1 ⟨rfl, hb1⟩
        have F1 := F0.step hb1
        obtain ⟨c0, c1, c2, c3, c4, c5, c6, c7, c8⟩ := R.boxc (F1.at 1 rfl)
        obtain ⟨d0, d1, d2⟩ := (⟨F1.at 0 rfl 0 _ rfl, F1.at 0 rfl 1 _ rfl, F1.at 0 rfl 2 _ rfl⟩ : _ ∧ _ ∧ _)
        simp only [World.size_alloc] at d0 d1 d2
        have zA : w.heap.size < w1.heap.size := F1.le 1 rfl
        have zB : w.heap.size + 1 < w1.heap.size := by have := F1.le 0 rfl; simp at this; omega
        clear hb1 F0
        go_wp2_with fail
        refine (HC2 _).mono ?_
        rintro e w2 ⟨rfl, hb2⟩
        have F2 := F1.step hb2
        clear c0 c1 c2 c3 c4 c5 c6 c7 c8 d0 d1 d2
        obtain ⟨d0, d1, d2⟩ := (⟨F2.at 0 rfl 0 _ rfl, F2.at 0 rfl 1 _ rfl, F2.at 0 rfl 2 _ rfl⟩ : _ ∧ _ ∧ _)
        simp only [World.size_alloc] at d0 d1 d2
        have zC : w1.heap.size ≤ w2.heap.size := hb2.size
        have A2 := h.below F2.below
        have k0 := A2.sn.c0
        have k1 := A2.sn.c1
        have k2 := A2.c2
        have k3 := A2.hc
        have kf := A2.fz
        have kh := A2.hf
        simp only [Nat.zero_add] at k0 k1
        have n1 := A2.n1
        have n2 := A2.n2
        have n3 := A2.n3
        have m1 := A2.sn.n1
        have m2 := A2.sn.n2
        have m3 := A2.sn.n3
        obtain ⟨n1', n2', n3', m1', m2', m3'⟩ : ¬ B = H ∧ ¬ pg = H ∧ ¬ sg = H ∧ ¬ sg = pg ∧ ¬ B = pg ∧ ¬ B = sg := ⟨fun e => n1 e.symm, fun e => n2 e.symm, fun e => n3 e.symm, fun e => m1 e.symm, fun e => m2 e.symm, fun e => m3 e.symm⟩
        have lB := h.lB
        have lH := h.lH
        have lp := (h.sn.op.lt pg rfl).2
        have ls := (h.sn.os.lt sg rfl).2
        obtain ⟨q1, q2, q3, q4⟩ : ¬ w.heap.size + 1 = B ∧ ¬ w.heap.size + 1 = H ∧ ¬ w.heap.size + 1 = pg ∧ ¬ w.heap.size + 1 = sg := by omega
        have HA := Lib.hid A2
        have HB := Lib.hid (F2.below.mono HBW)
        clear hb2 F1 F2 A2 HC1 HC2 h k0 k1 k2 k3 kf kh
        have k0 := HA.out.sn.c0
        have k1 := HA.out.sn.c1
        have k2 := HA.out.c2
        have k3 := HA.out.hc
        have kf := HA.out.fz
        have kh := HA.out.hf
        simp only [Nat.zero_add] at k0 k1
        go_wp2
        go_region
        go_wp2
        go_ret
        first | exact ⟨HB.out, .inl ⟨HS.out, rfl⟩⟩ | exact ⟨HB.out.drew, .inl ⟨HS.out, rfl⟩⟩
      · have hpos : 0 < hand := by omega

        go_enter Try.func62, Try.ntmps62
        go_wp2_with fail
        refine (HC1 _).mono ?_
        rintro e w1 ⟨rfl, hb1⟩
        have F1 := F0.step hb1
        obtain ⟨c0, c1, c2, c3, c4, c5, c6, c7, c8⟩ := R.boxc (F1.at 1 rfl)
        obtain ⟨d0, d1, d2⟩ := (⟨F1.at 0 rfl 0 _ rfl, F1.at 0 rfl 1 _ rfl, F1.at 0 rfl 2 _ rfl⟩ : _ ∧ _ ∧ _)
        simp only [World.size_alloc] at d0 d1 d2
        have zA : w.heap.size < w1.heap.size := F1.le 1 rfl
        have zB : w.heap.size + 1 < w1.heap.size := by have := F1.le 0 rfl; simp at this; omega
        clear hb1 F0
        go_wp2_with fail
        refine (HC2 _).mono ?_
        rintro e w2 ⟨rfl, hb2⟩
        have F2 := F1.step hb2
        clear c0 c1 c2 c3 c4 c5 c6 c7 c8 d0 d1 d2
        obtain ⟨d0, d1, d2⟩ := (⟨F2.at 0 rfl 0 _ rfl, F2.at 0 rfl 1 _ rfl, F2.at 0 rfl 2 _ rfl⟩ : _ ∧ _ ∧ _)
        simp only [World.size_alloc] at d0 d1 d2
        have zC : w1.heap.size ≤ w2.heap.size := hb2.size
        have A2 := h.below F2.below
        have k0 := A2.sn.c0
        have k1 := A2.sn.c1
        have k2 := A2.c2
        have k3 := A2.hc
        have kf := A2.fz
        have kh := A2.hf
        simp only [Nat.zero_add] at k0 k1
        have n1 := A2.n1
        have n2 := A2.n2
        have n3 := A2.n3
        have m1 := A2.sn.n1
        have m2 := A2.sn.n2
        have m3 := A2.sn.n3
        obtain ⟨n1', n2', n3', m1', m2', m3'⟩ : ¬ B = H ∧ ¬ pg = H ∧ ¬ sg = H ∧ ¬ sg = pg ∧ ¬ B = pg ∧ ¬ B = sg := ⟨fun e => n1 e.symm, fun e => n2 e.symm, fun e => n3 e.symm, fun e => m1 e.symm, fun e => m2 e.symm, fun e => m3 e.symm⟩
        have lB := h.lB
        have lH := h.lH
        have lp := (h.sn.op.lt pg rfl).2
        have ls := (h.sn.os.lt sg rfl).2
        obtain ⟨q1, q2, q3, q4⟩ : ¬ w.heap.size + 1 = B ∧ ¬ w.heap.size + 1 = H ∧ ¬ w.heap.size + 1 = pg ∧ ¬ w.heap.size + 1 = sg := by omega
        have HA := Lib.hid A2
        have HB := Lib.hid (F2.below.mono HBW)
        clear hb2 F1 F2 A2 HC1 HC2 h k0 k1 k2 k3 kf kh
        have k0 := HA.out.sn.c0
        have k1 := HA.out.sn.c1
        have k2 := HA.out.c2
        have k3 := HA.out.hc
        have kf := HA.out.fz
        have kh := HA.out.hf
        simp only [Nat.zero_add] at k0 k1
        go_wp2
        go_region
        go_wp2
        go_ret
        first | exact ⟨HB.out, .inl ⟨HS.out, rfl⟩⟩ | exact ⟨HB.out.drew, .inl ⟨HS.out, rfl⟩⟩
    · have hpos : 0 < hand := by omega
      rw [if_neg hlt] at hST
      have hHP : pl = -1 ∨ ∃ x : Nat, pl = (x : Int) ∧ x < pits.length := by
        rcases hHP with h | h | h | h
        · omega
        · omega
        · exact .inr ⟨pl.toNat, by omega, by omega⟩
        · exact .inl h
      rcases hHP with rfl | ⟨x, rfl, hxl⟩
      · have HS := Lib.hid (hST.trans (if_pos (by omega)))
        clear hST hbp

        go_enter Try.func62, Try.ntmps62
        go_wp2_with fail
        refine (HC1 _).mono ?_
        rintro e w1 ⟨rfl, hb1⟩
        have F1 := F0.step hb1
        obtain ⟨c0, c1, c2, c3, c4, c5, c6, c7, c8⟩ := R.boxc (F1.at 1 rfl)
        obtain ⟨d0, d1, d2⟩ := (⟨F1.at 0 rfl 0 _ rfl, F1.at 0 rfl 1 _ rfl, F1.at 0 rfl 2 _ rfl⟩ : _ ∧ _ ∧ _)
        simp only [World.size_alloc] at d0 d1 d2
        have zA : w.heap.size < w1.heap.size := F1.le 1 rfl
        have zB : w.heap.size + 1 < w1.heap.size := by have := F1.le 0 rfl; simp at this; omega
        clear hb1 F0
        go_wp2_with fail
        refine (HC2 _).mono ?_
        rintro e w2 ⟨rfl, hb2⟩
        have F2 := F1.step hb2
        clear c0 c1 c2 c3 c4 c5 c6 c7 c8 d0 d1 d2
        obtain ⟨d0, d1, d2⟩ := (⟨F2.at 0 rfl 0 _ rfl, F2.at 0 rfl 1 _ rfl, F2.at 0 rfl 2 _ rfl⟩ : _ ∧ _ ∧ _)
        simp only [World.size_alloc] at d0 d1 d2
        have zC : w1.heap.size ≤ w2.heap.size := hb2.size
        have A2 := h.below F2.below
        have k0 := A2.sn.c0
        have k1 := A2.sn.c1
        have k2 := A2.c2
        have k3 := A2.hc
        have kf := A2.fz
        have kh := A2.hf
        simp only [Nat.zero_add] at k0 k1
        have n1 := A2.n1
        have n2 := A2.n2
        have n3 := A2.n3
        have m1 := A2.sn.n1
        have m2 := A2.sn.n2
        have m3 := A2.sn.n3
        obtain ⟨n1', n2', n3', m1', m2', m3'⟩ : ¬ B = H ∧ ¬ pg = H ∧ ¬ sg = H ∧ ¬ sg = pg ∧ ¬ B = pg ∧ ¬ B = sg := ⟨fun e => n1 e.symm, fun e => n2 e.symm, fun e => n3 e.symm, fun e => m1 e.symm, fun e => m2 e.symm, fun e => m3 e.symm⟩
        have lB := h.lB
        have lH := h.lH
        have lp := (h.sn.op.lt pg rfl).2
        have ls := (h.sn.os.lt sg rfl).2
        obtain ⟨q1, q2, q3, q4⟩ : ¬ w.heap.size + 1 = B ∧ ¬ w.heap.size + 1 = H ∧ ¬ w.heap.size + 1 = pg ∧ ¬ w.heap.size + 1 = sg := by omega
        have HA := Lib.hid A2
        have HB := Lib.hid (F2.below.mono HBW)
        clear hb2 F1 F2 A2 HC1 HC2 h k0 k1 k2 k3 kf kh
        have k0 := HA.out.sn.c0
        have k1 := HA.out.sn.c1
        have k2 := HA.out.c2
        have k3 := HA.out.hc
        have kf := HA.out.fz
        have kh := HA.out.hf
        simp only [Nat.zero_add] at k0 k1
        go_wp2
        go_region
        have D : Below w2.heap.size w2 w2.drew := (Below.refl _ _).drew
        have HA2 := Lib.hid (HA.out.below D)
        have HB2 := Lib.hid (HB.out.trans (D.mono (by omega)))
        have d0' : w2.drew.cell? ⟨w.heap.size + 1, 0, none⟩ = _ := d0
        have d1' : w2.drew.cell? ⟨w.heap.size + 1, 1, none⟩ = _ := d1
        have d2' : w2.drew.cell? ⟨w.heap.size + 1, 2, none⟩ = _ := d2
        have zD : w2.drew.heap.size = w2.heap.size := rfl
        clear d0 d1 d2 k0 k1 k2 k3 kf kh D HA HB
        generalize w2.drew = wd at *
        have HA := HA2
        have HB := HB2
        clear HA2 HB2
        have k0 := HA.out.sn.c0
        have k1 := HA.out.sn.c1
        have k2 := HA.out.c2
        have k3 := HA.out.hc
        have kf := HA.out.fz
        have kh := HA.out.hf
        simp only [Nat.zero_add] at k0 k1
        go_upto_region 15 with fail
        go_still_tail 7, (by kernel_rfl)
        change wpList _ _ _ _ _ wd.drew
        have D : Below wd.heap.size wd wd.drew := (Below.refl _ _).drew
        have HA2 := Lib.hid (HA.out.below D)
        have HB2 := Lib.hid (HB.out.drew)
        have d0 : wd.drew.cell? ⟨w.heap.size + 1, 0, none⟩ = _ := d0'
        have d1 : wd.drew.cell? ⟨w.heap.size + 1, 1, none⟩ = _ := d1'
        have d2 : wd.drew.cell? ⟨w.heap.size + 1, 2, none⟩ = _ := d2'
        have zE : wd.drew.heap.size = w2.heap.size := zD
        clear d0' d1' d2' k0 k1 k2 k3 kf kh D HA HB zD
        generalize wd.drew = we at *
        have HA := HA2
        have HB := HB2
        clear HA2 HB2
        have k0 := HA.out.sn.c0
        have k1 := HA.out.sn.c1
        have k2 := HA.out.c2
        have k3 := HA.out.hc
        have kf := HA.out.fz
        have kh := HA.out.hf
        simp only [Nat.zero_add] at k0 k1
        go_upto_region 17 with fail
        have HA2 := Lib.hid (HA.out.hand (hand - c))
        have HB2 : Hid (Below base w (we.setCell ⟨H, 0, none⟩ (.int .i64 (hand - c)))) := HB.out.setCell (by first | exact HA.out.hH | exact HA.out.sn.nb0 | exact (HA.out.sn.op.lt pg rfl).1 | exact (HA.out.sn.os.lt sg rfl).1) _
        have d0' : (we.setCell ⟨H, 0, none⟩ (.int .i64 (hand - c))).cell? ⟨w.heap.size + 1, 0, none⟩ = _ := (cell_other (by omega)).trans d0
        have d1' : (we.setCell ⟨H, 0, none⟩ (.int .i64 (hand - c))).cell? ⟨w.heap.size + 1, 1, none⟩ = _ := (cell_other (by omega)).trans d1
        have d2' : (we.setCell ⟨H, 0, none⟩ (.int .i64 (hand - c))).cell? ⟨w.heap.size + 1, 2, none⟩ = _ := (cell_other (by omega)).trans d2
        have zE' : (we.setCell ⟨H, 0, none⟩ (.int .i64 (hand - c))).heap.size = w2.heap.size := by simp; exact zE
        clear d0 d1 d2 k0 k1 k2 k3 kf kh HA HB zE
        generalize (we.setCell ⟨H, 0, none⟩ (.int .i64 (hand - c))) = wf at *
        have HA := HA2
        have HB := HB2
        have zD := zE'
        clear HA2 HB2 zE'
        have k0 := HA.out.sn.c0
        have k1 := HA.out.sn.c1
        have k2 := HA.out.c2
        have k3 := HA.out.hc
        have kf := HA.out.fz
        have kh := HA.out.hf
        simp only [Nat.zero_add] at k0 k1
        have es := (HA.out.sn.os.cellAt pn (by simp <;> omega)).trans (by simp [HY.out] : _ = some (.int .i64 y))
        have fs := HA.out.sn.os.frozenAt pn
        go_still_tail 14, (by kernel_rfl)
        change wpList _ _ _ _ _ wf.drew
        clear es fs
        have D : Below wf.heap.size wf wf.drew := (Below.refl _ _).drew
        have HA2 := Lib.hid (HA.out.below D)
        have HB2 := Lib.hid (HB.out.drew)
        have d0 : wf.drew.cell? ⟨w.heap.size + 1, 0, none⟩ = _ := d0'
        have d1 : wf.drew.cell? ⟨w.heap.size + 1, 1, none⟩ = _ := d1'
        have d2 : wf.drew.cell? ⟨w.heap.size + 1, 2, none⟩ = _ := d2'
        have zE : wf.drew.heap.size = w2.heap.size := zD
        clear d0' d1' d2' k0 k1 k2 k3 kf kh D HA HB zD
        generalize wf.drew = wg at *
        have HA := HA2
        have HB := HB2
        clear HA2 HB2
        have k0 := HA.out.sn.c0
        have k1 := HA.out.sn.c1
        have k2 := HA.out.c2
        have k3 := HA.out.hc
        have kf := HA.out.fz
        have kh := HA.out.hf
        simp only [Nat.zero_add] at k0 k1
        have es := (HA.out.sn.os.cellAt pn (by simp <;> omega)).trans (by simp [HY.out] : _ = some (.int .i64 y))
        have fs := HA.out.sn.os.frozenAt pn
        go_wp2
        go_ret
        refine ⟨HB.out.setCell (HA.out.sn.os.lt sg rfl).1 _, ?_⟩
        have K := HA.out.sto pn (y + c)
        first | exact .inr ⟨_, HS.out, rfl, K⟩ | exact .inr ⟨_, _, HS.out, rfl, K⟩
      · have hxI : (x : Int) < (pits.length : Int) := by omega
        have HS := Lib.hid (hST.trans (if_neg (by omega)))
        obtain ⟨v, hv⟩ : ∃ v, v = pits.getD x 0 := ⟨_, rfl⟩
        have hvb : 0 ≤ v ∧ v ≤ T := by rw [hv, List.getD_eq_getElem?_getD, List.getElem?_eq_getElem hxl]; exact hbp _ (List.getElem_mem hxl)
        obtain ⟨v0, vT⟩ := hvb
        have HX := Lib.hid (show pits[x]? = some v by rw [hv]; simp [hxl])
        have hadd : addAt pits x c = pits.set x (v + c) := by rw [hv]; simp [addAt]
        rw [hadd] at HS
        clear hST hbp hv hadd

        go_enter Try.func62, Try.ntmps62
        go_wp2_with fail
        refine (HC1 _).mono ?_
        rintro e w1 ⟨rfl, hb1⟩
        have F1 := F0.step hb1
        obtain ⟨c0, c1, c2, c3, c4, c5, c6, c7, c8⟩ := R.boxc (F1.at 1 rfl)
        obtain ⟨d0, d1, d2⟩ := (⟨F1.at 0 rfl 0 _ rfl, F1.at 0 rfl 1 _ rfl, F1.at 0 rfl 2 _ rfl⟩ : _ ∧ _ ∧ _)
        simp only [World.size_alloc] at d0 d1 d2
        have zA : w.heap.size < w1.heap.size := F1.le 1 rfl
        have zB : w.heap.size + 1 < w1.heap.size := by have := F1.le 0 rfl; simp at this; omega
        clear hb1 F0
        go_wp2_with fail
        refine (HC2 _).mono ?_
        rintro e w2 ⟨rfl, hb2⟩
        have F2 := F1.step hb2
        clear c0 c1 c2 c3 c4 c5 c6 c7 c8 d0 d1 d2
        obtain ⟨d0, d1, d2⟩ := (⟨F2.at 0 rfl 0 _ rfl, F2.at 0 rfl 1 _ rfl, F2.at 0 rfl 2 _ rfl⟩ : _ ∧ _ ∧ _)
        simp only [World.size_alloc] at d0 d1 d2
        have zC : w1.heap.size ≤ w2.heap.size := hb2.size
        have A2 := h.below F2.below
        have k0 := A2.sn.c0
        have k1 := A2.sn.c1
        have k2 := A2.c2
        have k3 := A2.hc
        have kf := A2.fz
        have kh := A2.hf
        simp only [Nat.zero_add] at k0 k1
        have n1 := A2.n1
        have n2 := A2.n2
        have n3 := A2.n3
        have m1 := A2.sn.n1
        have m2 := A2.sn.n2
        have m3 := A2.sn.n3
        obtain ⟨n1', n2', n3', m1', m2', m3'⟩ : ¬ B = H ∧ ¬ pg = H ∧ ¬ sg = H ∧ ¬ sg = pg ∧ ¬ B = pg ∧ ¬ B = sg := ⟨fun e => n1 e.symm, fun e => n2 e.symm, fun e => n3 e.symm, fun e => m1 e.symm, fun e => m2 e.symm, fun e => m3 e.symm⟩
        have lB := h.lB
        have lH := h.lH
        have lp := (h.sn.op.lt pg rfl).2
        have ls := (h.sn.os.lt sg rfl).2
        obtain ⟨q1, q2, q3, q4⟩ : ¬ w.heap.size + 1 = B ∧ ¬ w.heap.size + 1 = H ∧ ¬ w.heap.size + 1 = pg ∧ ¬ w.heap.size + 1 = sg := by omega
        have HA := Lib.hid A2
        have HB := Lib.hid (F2.below.mono HBW)
        clear hb2 F1 F2 A2 HC1 HC2 h k0 k1 k2 k3 kf kh
        have k0 := HA.out.sn.c0
        have k1 := HA.out.sn.c1
        have k2 := HA.out.c2
        have k3 := HA.out.hc
        have kf := HA.out.fz
        have kh := HA.out.hf
        simp only [Nat.zero_add] at k0 k1
        go_wp2
        go_region
        have D : Below w2.heap.size w2 w2.drew := (Below.refl _ _).drew
        have HA2 := Lib.hid (HA.out.below D)
        have HB2 := Lib.hid (HB.out.trans (D.mono (by omega)))
        have d0' : w2.drew.cell? ⟨w.heap.size + 1, 0, none⟩ = _ := d0
        have d1' : w2.drew.cell? ⟨w.heap.size + 1, 1, none⟩ = _ := d1
        have d2' : w2.drew.cell? ⟨w.heap.size + 1, 2, none⟩ = _ := d2
        have zD : w2.drew.heap.size = w2.heap.size := rfl
        clear d0 d1 d2 k0 k1 k2 k3 kf kh D HA HB
        generalize w2.drew = wd at *
        have HA := HA2
        have HB := HB2
        clear HA2 HB2
        have k0 := HA.out.sn.c0
        have k1 := HA.out.sn.c1
        have k2 := HA.out.c2
        have k3 := HA.out.hc
        have kf := HA.out.fz
        have kh := HA.out.hf
        simp only [Nat.zero_add] at k0 k1
        go_upto_region 15 with fail
        go_still_tail 7, (by kernel_rfl)
        change wpList _ _ _ _ _ wd.drew
        have D : Below wd.heap.size wd wd.drew := (Below.refl _ _).drew
        have HA2 := Lib.hid (HA.out.below D)
        have HB2 := Lib.hid (HB.out.drew)
        have d0 : wd.drew.cell? ⟨w.heap.size + 1, 0, none⟩ = _ := d0'
        have d1 : wd.drew.cell? ⟨w.heap.size + 1, 1, none⟩ = _ := d1'
        have d2 : wd.drew.cell? ⟨w.heap.size + 1, 2, none⟩ = _ := d2'
        have zE : wd.drew.heap.size = w2.heap.size := zD
        clear d0' d1' d2' k0 k1 k2 k3 kf kh D HA HB zD
        generalize wd.drew = we at *
        have HA := HA2
        have HB := HB2
        clear HA2 HB2
        have k0 := HA.out.sn.c0
        have k1 := HA.out.sn.c1
        have k2 := HA.out.c2
        have k3 := HA.out.hc
        have kf := HA.out.fz
        have kh := HA.out.hf
        simp only [Nat.zero_add] at k0 k1
        go_upto_region 18 with fail
        have HA2 := Lib.hid (HA.out.hand (hand - c))
        have HB2 : Hid (Below base w (we.setCell ⟨H, 0, none⟩ (.int .i64 (hand - c)))) := HB.out.setCell (by first | exact HA.out.hH | exact HA.out.sn.nb0 | exact (HA.out.sn.op.lt pg rfl).1 | exact (HA.out.sn.os.lt sg rfl).1) _
        have d0' : (we.setCell ⟨H, 0, none⟩ (.int .i64 (hand - c))).cell? ⟨w.heap.size + 1, 0, none⟩ = _ := (cell_other (by omega)).trans d0
        have d1' : (we.setCell ⟨H, 0, none⟩ (.int .i64 (hand - c))).cell? ⟨w.heap.size + 1, 1, none⟩ = _ := (cell_other (by omega)).trans d1
        have d2' : (we.setCell ⟨H, 0, none⟩ (.int .i64 (hand - c))).cell? ⟨w.heap.size + 1, 2, none⟩ = _ := (cell_other (by omega)).trans d2
        have zE' : (we.setCell ⟨H, 0, none⟩ (.int .i64 (hand - c))).heap.size = w2.heap.size := by simp; exact zE
        clear d0 d1 d2 k0 k1 k2 k3 kf kh HA HB zE
        generalize (we.setCell ⟨H, 0, none⟩ (.int .i64 (hand - c))) = wf at *
        have HA := HA2
        have HB := HB2
        have zD := zE'
        clear HA2 HB2 zE'
        have k0 := HA.out.sn.c0
        have k1 := HA.out.sn.c1
        have k2 := HA.out.c2
        have k3 := HA.out.hc
        have kf := HA.out.fz
        have kh := HA.out.hf
        simp only [Nat.zero_add] at k0 k1
        have ep := (HA.out.sn.op.cellAt x (by simp <;> omega)).trans (by simp [HX.out] : _ = some (.int .i64 v))
        have fp := HA.out.sn.op.frozenAt x
        go_still_tail 12, (by kernel_rfl)
        change wpList _ _ _ _ _ wf.drew
        clear ep fp
        have D : Below wf.heap.size wf wf.drew := (Below.refl _ _).drew
        have HA2 := Lib.hid (HA.out.below D)
        have HB2 := Lib.hid (HB.out.drew)
        have d0 : wf.drew.cell? ⟨w.heap.size + 1, 0, none⟩ = _ := d0'
        have d1 : wf.drew.cell? ⟨w.heap.size + 1, 1, none⟩ = _ := d1'
        have d2 : wf.drew.cell? ⟨w.heap.size + 1, 2, none⟩ = _ := d2'
        have zE : wf.drew.heap.size = w2.heap.size := zD
        clear d0' d1' d2' k0 k1 k2 k3 kf kh D HA HB zD
        generalize wf.drew = wg at *
        have HA := HA2
        have HB := HB2
        clear HA2 HB2
        have k0 := HA.out.sn.c0
        have k1 := HA.out.sn.c1
        have k2 := HA.out.c2
        have k3 := HA.out.hc
        have kf := HA.out.fz
        have kh := HA.out.hf
        simp only [Nat.zero_add] at k0 k1
        have ep := (HA.out.sn.op.cellAt x (by simp <;> omega)).trans (by simp [HX.out] : _ = some (.int .i64 v))
        have fp := HA.out.sn.op.frozenAt x
        go_wp2
        go_ret
        refine ⟨HB.out.setCell (HA.out.sn.op.lt pg rfl).1 _, ?_⟩
        have K := HA.out.pit x (v + c)
        first | exact .inr ⟨_, HS.out, rfl, K⟩ | exact .inr ⟨_, _, HS.out, rfl, K⟩
  rw [if_neg k2] at hST
  by_cases hh : hand = 0
  case neg =>
    have HS := Lib.hid (hST.trans (if_pos hh))
    have hpos : 0 < hand := by omega
    have e2 : (k == 2) = false := by simpa using k2
    clear hST hHP hbp hk k2

    go_enter Try.func62, Try.ntmps62
    go_wp2_with fail
    refine (HC1 _).mono ?_
    rintro e w1 ⟨rfl, hb1⟩
    have F1 := F0.step hb1
    obtain ⟨c0, c1, c2, c3, c4, c5, c6, c7, c8⟩ := R.boxc (F1.at 1 rfl)
    obtain ⟨d0, d1, d2⟩ := (⟨F1.at 0 rfl 0 _ rfl, F1.at 0 rfl 1 _ rfl, F1.at 0 rfl 2 _ rfl⟩ : _ ∧ _ ∧ _)
    simp only [World.size_alloc] at d0 d1 d2
    have zA : w.heap.size < w1.heap.size := F1.le 1 rfl
    have zB : w.heap.size + 1 < w1.heap.size := by have := F1.le 0 rfl; simp at this; omega
    clear hb1 F0
    go_wp2_with fail
    refine (HC2 _).mono ?_
    rintro e w2 ⟨rfl, hb2⟩
    have F2 := F1.step hb2
    clear c0 c1 c2 c3 c4 c5 c6 c7 c8 d0 d1 d2
    obtain ⟨d0, d1, d2⟩ := (⟨F2.at 0 rfl 0 _ rfl, F2.at 0 rfl 1 _ rfl, F2.at 0 rfl 2 _ rfl⟩ : _ ∧ _ ∧ _)
    simp only [World.size_alloc] at d0 d1 d2
    have zC : w1.heap.size ≤ w2.heap.size := hb2.size
    have A2 := h.below F2.below
    have k0 := A2.sn.c0
    have k1 := A2.sn.c1
    have k2 := A2.c2
    have k3 := A2.hc
    have kf := A2.fz
    have kh := A2.hf
    simp only [Nat.zero_add] at k0 k1
    have n1 := A2.n1
    have n2 := A2.n2
    have n3 := A2.n3
    have m1 := A2.sn.n1
    have m2 := A2.sn.n2
    have m3 := A2.sn.n3
    obtain ⟨n1', n2', n3', m1', m2', m3'⟩ : ¬ B = H ∧ ¬ pg = H ∧ ¬ sg = H ∧ ¬ sg = pg ∧ ¬ B = pg ∧ ¬ B = sg := ⟨fun e => n1 e.symm, fun e => n2 e.symm, fun e => n3 e.symm, fun e => m1 e.symm, fun e => m2 e.symm, fun e => m3 e.symm⟩
    have lB := h.lB
    have lH := h.lH
    have lp := (h.sn.op.lt pg rfl).2
    have ls := (h.sn.os.lt sg rfl).2
    obtain ⟨q1, q2, q3, q4⟩ : ¬ w.heap.size + 1 = B ∧ ¬ w.heap.size + 1 = H ∧ ¬ w.heap.size + 1 = pg ∧ ¬ w.heap.size + 1 = sg := by omega
    have HA := Lib.hid A2
    have HB := Lib.hid (F2.below.mono HBW)
    clear hb2 F1 F2 A2 HC1 HC2 h k0 k1 k2 k3 kf kh
    have k0 := HA.out.sn.c0
    have k1 := HA.out.sn.c1
    have k2 := HA.out.c2
    have k3 := HA.out.hc
    have kf := HA.out.fz
    have kh := HA.out.hf
    simp only [Nat.zero_add] at k0 k1
    go_wp2
    go_ret
    first | exact ⟨HB.out, .inl ⟨HS.out, rfl⟩⟩ | exact ⟨HB.out.drew, .inl ⟨HS.out, rfl⟩⟩
  subst hh
  rw [if_neg (by simp)] at hST
  rcases hk with ⟨h5 | h6, rfl, rfl⟩ | ⟨hk, hc1, hc9, hpl⟩
  · subst h5
    have HS := Lib.hid hST
    clear hST hHP hbp k2

    go_enter Try.func62, Try.ntmps62
    go_wp2_with fail
    refine (HC1 _).mono ?_
    rintro e w1 ⟨rfl, hb1⟩
    have F1 := F0.step hb1
    obtain ⟨c0, c1, c2, c3, c4, c5, c6, c7, c8⟩ := R.boxc (F1.at 1 rfl)
    obtain ⟨d0, d1, d2⟩ := (⟨F1.at 0 rfl 0 _ rfl, F1.at 0 rfl 1 _ rfl, F1.at 0 rfl 2 _ rfl⟩ : _ ∧ _ ∧ _)
    simp only [World.size_alloc] at d0 d1 d2
    have zA : w.heap.size < w1.heap.size := F1.le 1 rfl
    have zB : w.heap.size + 1 < w1.heap.size := by have := F1.le 0 rfl; simp at this; omega
    clear hb1 F0
    go_wp2_with fail
    refine (HC2 _).mono ?_
    rintro e w2 ⟨rfl, hb2⟩
    have F2 := F1.step hb2
    clear c0 c1 c2 c3 c4 c5 c6 c7 c8 d0 d1 d2
    obtain ⟨d0, d1, d2⟩ := (⟨F2.at 0 rfl 0 _ rfl, F2.at 0 rfl 1 _ rfl, F2.at 0 rfl 2 _ rfl⟩ : _ ∧ _ ∧ _)
    simp only [World.size_alloc] at d0 d1 d2
    have zC : w1.heap.size ≤ w2.heap.size := hb2.size
    have A2 := h.below F2.below
    have k0 := A2.sn.c0
    have k1 := A2.sn.c1
    have k2 := A2.c2
    have k3 := A2.hc
    have kf := A2.fz
    have kh := A2.hf
    simp only [Nat.zero_add] at k0 k1
    have n1 := A2.n1
    have n2 := A2.n2
    have n3 := A2.n3
    have m1 := A2.sn.n1
    have m2 := A2.sn.n2
    have m3 := A2.sn.n3
    obtain ⟨n1', n2', n3', m1', m2', m3'⟩ : ¬ B = H ∧ ¬ pg = H ∧ ¬ sg = H ∧ ¬ sg = pg ∧ ¬ B = pg ∧ ¬ B = sg := ⟨fun e => n1 e.symm, fun e => n2 e.symm, fun e => n3 e.symm, fun e => m1 e.symm, fun e => m2 e.symm, fun e => m3 e.symm⟩
    have lB := h.lB
    have lH := h.lH
    have lp := (h.sn.op.lt pg rfl).2
    have ls := (h.sn.os.lt sg rfl).2
    obtain ⟨q1, q2, q3, q4⟩ : ¬ w.heap.size + 1 = B ∧ ¬ w.heap.size + 1 = H ∧ ¬ w.heap.size + 1 = pg ∧ ¬ w.heap.size + 1 = sg := by omega
    have HA := Lib.hid A2
    have HB := Lib.hid (F2.below.mono HBW)
    clear hb2 F1 F2 A2 HC1 HC2 h k0 k1 k2 k3 kf kh
    have k0 := HA.out.sn.c0
    have k1 := HA.out.sn.c1
    have k2 := HA.out.c2
    have k3 := HA.out.hc
    have kf := HA.out.fz
    have kh := HA.out.hf
    simp only [Nat.zero_add] at k0 k1
    go_wp2
    go_ret
    exact ⟨HB.out, .inr ⟨_, HS.out, rfl, HA.out⟩⟩
  · subst h6
    have HS := Lib.hid hST
    clear hST hHP hbp k2
    have hw1 : IntKind.i64.wrap (1 - (pn : Int)) = 1 - pn := IntWalk.i64_in _ (by omega)

    go_enter Try.func62, Try.ntmps62
    go_wp2_with fail
    refine (HC1 _).mono ?_
    rintro e w1 ⟨rfl, hb1⟩
    have F1 := F0.step hb1
    obtain ⟨c0, c1, c2, c3, c4, c5, c6, c7, c8⟩ := R.boxc (F1.at 1 rfl)
    obtain ⟨d0, d1, d2⟩ := (⟨F1.at 0 rfl 0 _ rfl, F1.at 0 rfl 1 _ rfl, F1.at 0 rfl 2 _ rfl⟩ : _ ∧ _ ∧ _)
    simp only [World.size_alloc] at d0 d1 d2
    have zA : w.heap.size < w1.heap.size := F1.le 1 rfl
    have zB : w.heap.size + 1 < w1.heap.size := by have := F1.le 0 rfl; simp at this; omega
    clear hb1 F0
    go_wp2_with fail
    refine (HC2 _).mono ?_
    rintro e w2 ⟨rfl, hb2⟩
    have F2 := F1.step hb2
    clear c0 c1 c2 c3 c4 c5 c6 c7 c8 d0 d1 d2
    obtain ⟨d0, d1, d2⟩ := (⟨F2.at 0 rfl 0 _ rfl, F2.at 0 rfl 1 _ rfl, F2.at 0 rfl 2 _ rfl⟩ : _ ∧ _ ∧ _)
    simp only [World.size_alloc] at d0 d1 d2
    have zC : w1.heap.size ≤ w2.heap.size := hb2.size
    have A2 := h.below F2.below
    have k0 := A2.sn.c0
    have k1 := A2.sn.c1
    have k2 := A2.c2
    have k3 := A2.hc
    have kf := A2.fz
    have kh := A2.hf
    simp only [Nat.zero_add] at k0 k1
    have n1 := A2.n1
    have n2 := A2.n2
    have n3 := A2.n3
    have m1 := A2.sn.n1
    have m2 := A2.sn.n2
    have m3 := A2.sn.n3
    obtain ⟨n1', n2', n3', m1', m2', m3'⟩ : ¬ B = H ∧ ¬ pg = H ∧ ¬ sg = H ∧ ¬ sg = pg ∧ ¬ B = pg ∧ ¬ B = sg := ⟨fun e => n1 e.symm, fun e => n2 e.symm, fun e => n3 e.symm, fun e => m1 e.symm, fun e => m2 e.symm, fun e => m3 e.symm⟩
    have lB := h.lB
    have lH := h.lH
    have lp := (h.sn.op.lt pg rfl).2
    have ls := (h.sn.os.lt sg rfl).2
    obtain ⟨q1, q2, q3, q4⟩ : ¬ w.heap.size + 1 = B ∧ ¬ w.heap.size + 1 = H ∧ ¬ w.heap.size + 1 = pg ∧ ¬ w.heap.size + 1 = sg := by omega
    have HA := Lib.hid A2
    have HB := Lib.hid (F2.below.mono HBW)
    clear hb2 F1 F2 A2 HC1 HC2 h k0 k1 k2 k3 kf kh
    have k0 := HA.out.sn.c0
    have k1 := HA.out.sn.c1
    have k2 := HA.out.c2
    have k3 := HA.out.hc
    have kf := HA.out.fz
    have kh := HA.out.hf
    simp only [Nat.zero_add] at k0 k1
    go_wp2
    go_ret
    exact ⟨HB.out.setCell HA.out.sn.nb0 _, .inr ⟨_, HS.out, rfl, HA.out.play _⟩⟩
  have hP : ∃ x : Nat, pl = (x : Int) ∧ (k = 4 ∨ x < pits.length) := by
    rcases hpl with h | h
    · refine ⟨pl.toNat, by omega, ?_⟩
      rcases hHP with h | h | h | h
      · omega
      · omega
      · exact .inr (by omega)
      · omega
    · omega
  obtain ⟨x, rfl, hxl⟩ := hP
  clear hHP hpl
  by_cases h4 : k = 4
  · subst h4
    have HS := Lib.hid hST
    clear hST hbp k2 hk hxl

    go_enter Try.func62, Try.ntmps62
    go_wp2_with fail
    refine (HC1 _).mono ?_
    rintro e w1 ⟨rfl, hb1⟩
    have F1 := F0.step hb1
    obtain ⟨c0, c1, c2, c3, c4, c5, c6, c7, c8⟩ := R.boxc (F1.at 1 rfl)
    obtain ⟨d0, d1, d2⟩ := (⟨F1.at 0 rfl 0 _ rfl, F1.at 0 rfl 1 _ rfl, F1.at 0 rfl 2 _ rfl⟩ : _ ∧ _ ∧ _)
    simp only [World.size_alloc] at d0 d1 d2
    have zA : w.heap.size < w1.heap.size := F1.le 1 rfl
    have zB : w.heap.size + 1 < w1.heap.size := by have := F1.le 0 rfl; simp at this; omega
    clear hb1 F0
    go_wp2_with fail
    refine (HC2 _).mono ?_
    rintro e w2 ⟨rfl, hb2⟩
    have F2 := F1.step hb2
    clear c0 c1 c2 c3 c4 c5 c6 c7 c8 d0 d1 d2
    obtain ⟨d0, d1, d2⟩ := (⟨F2.at 0 rfl 0 _ rfl, F2.at 0 rfl 1 _ rfl, F2.at 0 rfl 2 _ rfl⟩ : _ ∧ _ ∧ _)
    simp only [World.size_alloc] at d0 d1 d2
    have zC : w1.heap.size ≤ w2.heap.size := hb2.size
    have A2 := h.below F2.below
    have k0 := A2.sn.c0
    have k1 := A2.sn.c1
    have k2 := A2.c2
    have k3 := A2.hc
    have kf := A2.fz
    have kh := A2.hf
    simp only [Nat.zero_add] at k0 k1
    have n1 := A2.n1
    have n2 := A2.n2
    have n3 := A2.n3
    have m1 := A2.sn.n1
    have m2 := A2.sn.n2
    have m3 := A2.sn.n3
    obtain ⟨n1', n2', n3', m1', m2', m3'⟩ : ¬ B = H ∧ ¬ pg = H ∧ ¬ sg = H ∧ ¬ sg = pg ∧ ¬ B = pg ∧ ¬ B = sg := ⟨fun e => n1 e.symm, fun e => n2 e.symm, fun e => n3 e.symm, fun e => m1 e.symm, fun e => m2 e.symm, fun e => m3 e.symm⟩
    have lB := h.lB
    have lH := h.lH
    have lp := (h.sn.op.lt pg rfl).2
    have ls := (h.sn.os.lt sg rfl).2
    obtain ⟨q1, q2, q3, q4⟩ : ¬ w.heap.size + 1 = B ∧ ¬ w.heap.size + 1 = H ∧ ¬ w.heap.size + 1 = pg ∧ ¬ w.heap.size + 1 = sg := by omega
    have HA := Lib.hid A2
    have HB := Lib.hid (F2.below.mono HBW)
    clear hb2 F1 F2 A2 HC1 HC2 h k0 k1 k2 k3 kf kh
    have k0 := HA.out.sn.c0
    have k1 := HA.out.sn.c1
    have k2 := HA.out.c2
    have k3 := HA.out.hc
    have kf := HA.out.fz
    have kh := HA.out.hf
    simp only [Nat.zero_add] at k0 k1
    go_wp2
    go_ret
    exact ⟨HB.out, .inr ⟨_, HS.out, rfl, HA.out⟩⟩
  have hxl : x < pits.length := by rcases hxl with h | h <;> omega
  have hxI : (x : Int) < (pits.length : Int) := by omega
  obtain ⟨v, hv⟩ : ∃ v, v = pits.getD x 0 := ⟨_, rfl⟩
  have hvb : 0 ≤ v ∧ v ≤ T := by rw [hv, List.getD_eq_getElem?_getD, List.getElem?_eq_getElem hxl]; exact hbp _ (List.getElem_mem hxl)
  obtain ⟨v0, vT⟩ := hvb
  have HX := Lib.hid (show pits[x]? = some v by rw [hv]; simp [hxl])
  simp only [Int.toNat_natCast] at hST
  rw [← hv] at hST
  clear hbp hv
  have hk : k = 1 ∨ k = 3 := by omega
  clear h4
  rcases hk with rfl | rfl
  · rw [if_pos rfl] at hST
    by_cases hvc : v = c
    · have HS := Lib.hid (hST.trans (if_pos hvc))
      have hvc1 : (c == v) = true := by simpa using hvc.symm
      have HVC := Lib.hid hvc
      clear hST k2 hvc

      go_enter Try.func62, Try.ntmps62
      go_wp2_with fail
      refine (HC1 _).mono ?_
      rintro e w1 ⟨rfl, hb1⟩
      have F1 := F0.step hb1
      obtain ⟨c0, c1, c2, c3, c4, c5, c6, c7, c8⟩ := R.boxc (F1.at 1 rfl)
      obtain ⟨d0, d1, d2⟩ := (⟨F1.at 0 rfl 0 _ rfl, F1.at 0 rfl 1 _ rfl, F1.at 0 rfl 2 _ rfl⟩ : _ ∧ _ ∧ _)
      simp only [World.size_alloc] at d0 d1 d2
      have zA : w.heap.size < w1.heap.size := F1.le 1 rfl
      have zB : w.heap.size + 1 < w1.heap.size := by have := F1.le 0 rfl; simp at this; omega
      clear hb1 F0
      go_wp2_with fail
      refine (HC2 _).mono ?_
      rintro e w2 ⟨rfl, hb2⟩
      have F2 := F1.step hb2
      clear c0 c1 c2 c3 c4 c5 c6 c7 c8 d0 d1 d2
      obtain ⟨d0, d1, d2⟩ := (⟨F2.at 0 rfl 0 _ rfl, F2.at 0 rfl 1 _ rfl, F2.at 0 rfl 2 _ rfl⟩ : _ ∧ _ ∧ _)
      simp only [World.size_alloc] at d0 d1 d2
      have zC : w1.heap.size ≤ w2.heap.size := hb2.size
      have A2 := h.below F2.below
      have k0 := A2.sn.c0
      have k1 := A2.sn.c1
      have k2 := A2.c2
      have k3 := A2.hc
      have kf := A2.fz
      have kh := A2.hf
      simp only [Nat.zero_add] at k0 k1
      have n1 := A2.n1
      have n2 := A2.n2
      have n3 := A2.n3
      have m1 := A2.sn.n1
      have m2 := A2.sn.n2
      have m3 := A2.sn.n3
      obtain ⟨n1', n2', n3', m1', m2', m3'⟩ : ¬ B = H ∧ ¬ pg = H ∧ ¬ sg = H ∧ ¬ sg = pg ∧ ¬ B = pg ∧ ¬ B = sg := ⟨fun e => n1 e.symm, fun e => n2 e.symm, fun e => n3 e.symm, fun e => m1 e.symm, fun e => m2 e.symm, fun e => m3 e.symm⟩
      have lB := h.lB
      have lH := h.lH
      have lp := (h.sn.op.lt pg rfl).2
      have ls := (h.sn.os.lt sg rfl).2
      obtain ⟨q1, q2, q3, q4⟩ : ¬ w.heap.size + 1 = B ∧ ¬ w.heap.size + 1 = H ∧ ¬ w.heap.size + 1 = pg ∧ ¬ w.heap.size + 1 = sg := by omega
      have HA := Lib.hid A2
      have HB := Lib.hid (F2.below.mono HBW)
      clear hb2 F1 F2 A2 HC1 HC2 h k0 k1 k2 k3 kf kh
      have k0 := HA.out.sn.c0
      have k1 := HA.out.sn.c1
      have k2 := HA.out.c2
      have k3 := HA.out.hc
      have kf := HA.out.fz
      have kh := HA.out.hf
      simp only [Nat.zero_add] at k0 k1
      have ep := (HA.out.sn.op.cellAt x (by simp <;> omega)).trans (by simp [HX.out] : _ = some (.int .i64 v))
      have fp := HA.out.sn.op.frozenAt x
      go_upto_region 6 with fail
      go_region
      clear ep fp
      have D : Below w2.heap.size w2 w2.drew := (Below.refl _ _).drew
      have HA2 := Lib.hid (HA.out.below D)
      have HB2 := Lib.hid (HB.out.trans (D.mono (by omega)))
      have d0' : w2.drew.cell? ⟨w.heap.size + 1, 0, none⟩ = _ := d0
      have d1' : w2.drew.cell? ⟨w.heap.size + 1, 1, none⟩ = _ := d1
      have d2' : w2.drew.cell? ⟨w.heap.size + 1, 2, none⟩ = _ := d2
      have zD : w2.drew.heap.size = w2.heap.size := rfl
      clear d0 d1 d2 k0 k1 k2 k3 kf kh D HA HB
      generalize w2.drew = wd at *
      have HA := HA2
      have HB := HB2
      clear HA2 HB2
      have k0 := HA.out.sn.c0
      have k1 := HA.out.sn.c1
      have k2 := HA.out.c2
      have k3 := HA.out.hc
      have kf := HA.out.fz
      have kh := HA.out.hf
      simp only [Nat.zero_add] at k0 k1
      go_upto_region 8 with fail
      go_still_tail 7, (by kernel_rfl)
      change wpList _ _ _ _ _ wd.drew
      have D : Below wd.heap.size wd wd.drew := (Below.refl _ _).drew
      have HA2 := Lib.hid (HA.out.below D)
      have HB2 := Lib.hid (HB.out.drew)
      have d0 : wd.drew.cell? ⟨w.heap.size + 1, 0, none⟩ = _ := d0'
      have d1 : wd.drew.cell? ⟨w.heap.size + 1, 1, none⟩ = _ := d1'
      have d2 : wd.drew.cell? ⟨w.heap.size + 1, 2, none⟩ = _ := d2'
      have zE : wd.drew.heap.size = w2.heap.size := zD
      clear d0' d1' d2' k0 k1 k2 k3 kf kh D HA HB zD
      generalize wd.drew = we at *
      have HA := HA2
      have HB := HB2
      clear HA2 HB2
      have k0 := HA.out.sn.c0
      have k1 := HA.out.sn.c1
      have k2 := HA.out.c2
      have k3 := HA.out.hc
      have kf := HA.out.fz
      have kh := HA.out.hf
      simp only [Nat.zero_add] at k0 k1
      have ep := (HA.out.sn.op.cellAt x (by simp <;> omega)).trans (by simp [HX.out] : _ = some (.int .i64 v))
      have fp := HA.out.sn.op.frozenAt x
      go_wp2
      go_ret
      refine ⟨(HB.out.setCell (HA.out.sn.op.lt pg rfl).1 _).setCell HA.out.hH _, ?_⟩
      have K := (HA.out.pit x 0).hand c
      first | exact .inr ⟨_, HS.out, rfl, K⟩ | exact .inr ⟨_, _, HS.out, rfl, K⟩
    · have HS := Lib.hid (hST.trans (if_neg hvc))
      have hvc1 : (c == v) = false := by simpa using fun e => hvc (Eq.symm e)
      clear hST k2 hvc

      go_enter Try.func62, Try.ntmps62
      go_wp2_with fail
      refine (HC1 _).mono ?_
      rintro e w1 ⟨rfl, hb1⟩
      have F1 := F0.step hb1
      obtain ⟨c0, c1, c2, c3, c4, c5, c6, c7, c8⟩ := R.boxc (F1.at 1 rfl)
      obtain ⟨d0, d1, d2⟩ := (⟨F1.at 0 rfl 0 _ rfl, F1.at 0 rfl 1 _ rfl, F1.at 0 rfl 2 _ rfl⟩ : _ ∧ _ ∧ _)
      simp only [World.size_alloc] at d0 d1 d2
      have zA : w.heap.size < w1.heap.size := F1.le 1 rfl
      have zB : w.heap.size + 1 < w1.heap.size := by have := F1.le 0 rfl; simp at this; omega
      clear hb1 F0
      go_wp2_with fail
      refine (HC2 _).mono ?_
      rintro e w2 ⟨rfl, hb2⟩
      have F2 := F1.step hb2
      clear c0 c1 c2 c3 c4 c5 c6 c7 c8 d0 d1 d2
      obtain ⟨d0, d1, d2⟩ := (⟨F2.at 0 rfl 0 _ rfl, F2.at 0 rfl 1 _ rfl, F2.at 0 rfl 2 _ rfl⟩ : _ ∧ _ ∧ _)
      simp only [World.size_alloc] at d0 d1 d2
      have zC : w1.heap.size ≤ w2.heap.size := hb2.size
      have A2 := h.below F2.below
      have k0 := A2.sn.c0
      have k1 := A2.sn.c1
      have k2 := A2.c2
      have k3 := A2.hc
      have kf := A2.fz
      have kh := A2.hf
      simp only [Nat.zero_add] at k0 k1
      have n1 := A2.n1
      have n2 := A2.n2
      have n3 := A2.n3
      have m1 := A2.sn.n1
      have m2 := A2.sn.n2
      have m3 := A2.sn.n3
      obtain ⟨n1', n2', n3', m1', m2', m3'⟩ : ¬ B = H ∧ ¬ pg = H ∧ ¬ sg = H ∧ ¬ sg = pg ∧ ¬ B = pg ∧ ¬ B = sg := ⟨fun e => n1 e.symm, fun e => n2 e.symm, fun e => n3 e.symm, fun e => m1 e.symm, fun e => m2 e.symm, fun e => m3 e.symm⟩
      have lB := h.lB
      have lH := h.lH
      have lp := (h.sn.op.lt pg rfl).2
      have ls := (h.sn.os.lt sg rfl).2
      obtain ⟨q1, q2, q3, q4⟩ : ¬ w.heap.size + 1 = B ∧ ¬ w.heap.size + 1 = H ∧ ¬ w.heap.size + 1 = pg ∧ ¬ w.heap.size + 1 = sg := by omega
      have HA := Lib.hid A2
      have HB := Lib.hid (F2.below.mono HBW)
      clear hb2 F1 F2 A2 HC1 HC2 h k0 k1 k2 k3 kf kh
      have k0 := HA.out.sn.c0
      have k1 := HA.out.sn.c1
      have k2 := HA.out.c2
      have k3 := HA.out.hc
      have kf := HA.out.fz
      have kh := HA.out.hf
      simp only [Nat.zero_add] at k0 k1
      have ep := (HA.out.sn.op.cellAt x (by simp <;> omega)).trans (by simp [HX.out] : _ = some (.int .i64 v))
      have fp := HA.out.sn.op.frozenAt x
      go_wp2
      go_region
      go_wp2
      go_ret
      first | exact ⟨HB.out, .inl ⟨HS.out, rfl⟩⟩ | exact ⟨HB.out.drew, .inl ⟨HS.out, rfl⟩⟩
  · rw [if_neg (by omega), if_pos rfl] at hST
    by_cases hvc : v = c
    · have HS := Lib.hid (hST.trans (if_pos hvc))
      have hvc1 : (c == v) = true := by simpa using hvc.symm
      have HVC := Lib.hid hvc
      clear hST k2 hvc

      go_enter Try.func62, Try.ntmps62
      go_wp2_with fail
      refine (HC1 _).mono ?_
      rintro e w1 ⟨rfl, hb1⟩
      have F1 := F0.step hb1
      obtain ⟨c0, c1, c2, c3, c4, c5, c6, c7, c8⟩ := R.boxc (F1.at 1 rfl)
      obtain ⟨d0, d1, d2⟩ := (⟨F1.at 0 rfl 0 _ rfl, F1.at 0 rfl 1 _ rfl, F1.at 0 rfl 2 _ rfl⟩ : _ ∧ _ ∧ _)
      simp only [World.size_alloc] at d0 d1 d2
      have zA : w.heap.size < w1.heap.size := F1.le 1 rfl
      have zB : w.heap.size + 1 < w1.heap.size := by have := F1.le 0 rfl; simp at this; omega
      clear hb1 F0
      go_wp2_with fail
      refine (HC2 _).mono ?_
      rintro e w2 ⟨rfl, hb2⟩
      have F2 := F1.step hb2
      clear c0 c1 c2 c3 c4 c5 c6 c7 c8 d0 d1 d2
      obtain ⟨d0, d1, d2⟩ := (⟨F2.at 0 rfl 0 _ rfl, F2.at 0 rfl 1 _ rfl, F2.at 0 rfl 2 _ rfl⟩ : _ ∧ _ ∧ _)
      simp only [World.size_alloc] at d0 d1 d2
      have zC : w1.heap.size ≤ w2.heap.size := hb2.size
      have A2 := h.below F2.below
      have k0 := A2.sn.c0
      have k1 := A2.sn.c1
      have k2 := A2.c2
      have k3 := A2.hc
      have kf := A2.fz
      have kh := A2.hf
      simp only [Nat.zero_add] at k0 k1
      have n1 := A2.n1
      have n2 := A2.n2
      have n3 := A2.n3
      have m1 := A2.sn.n1
      have m2 := A2.sn.n2
      have m3 := A2.sn.n3
      obtain ⟨n1', n2', n3', m1', m2', m3'⟩ : ¬ B = H ∧ ¬ pg = H ∧ ¬ sg = H ∧ ¬ sg = pg ∧ ¬ B = pg ∧ ¬ B = sg := ⟨fun e => n1 e.symm, fun e => n2 e.symm, fun e => n3 e.symm, fun e => m1 e.symm, fun e => m2 e.symm, fun e => m3 e.symm⟩
      have lB := h.lB
      have lH := h.lH
      have lp := (h.sn.op.lt pg rfl).2
      have ls := (h.sn.os.lt sg rfl).2
      obtain ⟨q1, q2, q3, q4⟩ : ¬ w.heap.size + 1 = B ∧ ¬ w.heap.size + 1 = H ∧ ¬ w.heap.size + 1 = pg ∧ ¬ w.heap.size + 1 = sg := by omega
      have HA := Lib.hid A2
      have HB := Lib.hid (F2.below.mono HBW)
      clear hb2 F1 F2 A2 HC1 HC2 h k0 k1 k2 k3 kf kh
      have k0 := HA.out.sn.c0
      have k1 := HA.out.sn.c1
      have k2 := HA.out.c2
      have k3 := HA.out.hc
      have kf := HA.out.fz
      have kh := HA.out.hf
      simp only [Nat.zero_add] at k0 k1
      have ep := (HA.out.sn.op.cellAt x (by simp <;> omega)).trans (by simp [HX.out] : _ = some (.int .i64 v))
      have fp := HA.out.sn.op.frozenAt x
      go_upto_region 6 with fail
      go_region
      clear ep fp
      have D : Below w2.heap.size w2 w2.drew := (Below.refl _ _).drew
      have HA2 := Lib.hid (HA.out.below D)
      have HB2 := Lib.hid (HB.out.trans (D.mono (by omega)))
      have d0' : w2.drew.cell? ⟨w.heap.size + 1, 0, none⟩ = _ := d0
      have d1' : w2.drew.cell? ⟨w.heap.size + 1, 1, none⟩ = _ := d1
      have d2' : w2.drew.cell? ⟨w.heap.size + 1, 2, none⟩ = _ := d2
      have zD : w2.drew.heap.size = w2.heap.size := rfl
      clear d0 d1 d2 k0 k1 k2 k3 kf kh D HA HB
      generalize w2.drew = wd at *
      have HA := HA2
      have HB := HB2
      clear HA2 HB2
      have k0 := HA.out.sn.c0
      have k1 := HA.out.sn.c1
      have k2 := HA.out.c2
      have k3 := HA.out.hc
      have kf := HA.out.fz
      have kh := HA.out.hf
      simp only [Nat.zero_add] at k0 k1
      go_upto_region 8 with fail
      go_still_tail 7, (by kernel_rfl)
      change wpList _ _ _ _ _ wd.drew
      have D : Below wd.heap.size wd wd.drew := (Below.refl _ _).drew
      have HA2 := Lib.hid (HA.out.below D)
      have HB2 := Lib.hid (HB.out.drew)
      have d0 : wd.drew.cell? ⟨w.heap.size + 1, 0, none⟩ = _ := d0'
      have d1 : wd.drew.cell? ⟨w.heap.size + 1, 1, none⟩ = _ := d1'
      have d2 : wd.drew.cell? ⟨w.heap.size + 1, 2, none⟩ = _ := d2'
      have zE : wd.drew.heap.size = w2.heap.size := zD
      clear d0' d1' d2' k0 k1 k2 k3 kf kh D HA HB zD
      generalize wd.drew = we at *
      have HA := HA2
      have HB := HB2
      clear HA2 HB2
      have k0 := HA.out.sn.c0
      have k1 := HA.out.sn.c1
      have k2 := HA.out.c2
      have k3 := HA.out.hc
      have kf := HA.out.fz
      have kh := HA.out.hf
      simp only [Nat.zero_add] at k0 k1
      have ep := (HA.out.sn.op.cellAt x (by simp <;> omega)).trans (by simp [HX.out] : _ = some (.int .i64 v))
      have fp := HA.out.sn.op.frozenAt x
      go_upto_region 11 with fail
      have HA2 := Lib.hid (HA.out.pit x 0)
      have HB2 : Hid (Below base w (we.setCell ⟨pg, x, none⟩ (.int .i64 0))) := HB.out.setCell (by first | exact HA.out.hH | exact HA.out.sn.nb0 | exact (HA.out.sn.op.lt pg rfl).1 | exact (HA.out.sn.os.lt sg rfl).1) _
      have d0' : (we.setCell ⟨pg, x, none⟩ (.int .i64 0)).cell? ⟨w.heap.size + 1, 0, none⟩ = _ := (cell_other (by omega)).trans d0
      have d1' : (we.setCell ⟨pg, x, none⟩ (.int .i64 0)).cell? ⟨w.heap.size + 1, 1, none⟩ = _ := (cell_other (by omega)).trans d1
      have d2' : (we.setCell ⟨pg, x, none⟩ (.int .i64 0)).cell? ⟨w.heap.size + 1, 2, none⟩ = _ := (cell_other (by omega)).trans d2
      have zE' : (we.setCell ⟨pg, x, none⟩ (.int .i64 0)).heap.size = w2.heap.size := by simp; exact zE
      clear d0 d1 d2 k0 k1 k2 k3 kf kh HA HB zE
      generalize (we.setCell ⟨pg, x, none⟩ (.int .i64 0)) = wf at *
      have HA := HA2
      have HB := HB2
      have zD := zE'
      clear HA2 HB2 zE'
      have k0 := HA.out.sn.c0
      have k1 := HA.out.sn.c1
      have k2 := HA.out.c2
      have k3 := HA.out.hc
      have kf := HA.out.fz
      have kh := HA.out.hf
      simp only [Nat.zero_add] at k0 k1
      have es := (HA.out.sn.os.cellAt pn (by simp <;> omega)).trans (by simp [HY.out] : _ = some (.int .i64 y))
      have fs := HA.out.sn.os.frozenAt pn
      go_still_tail 14, (by kernel_rfl)
      change wpList _ _ _ _ _ wf.drew
      clear es fs
      have D : Below wf.heap.size wf wf.drew := (Below.refl _ _).drew
      have HA2 := Lib.hid (HA.out.below D)
      have HB2 := Lib.hid (HB.out.drew)
      have d0 : wf.drew.cell? ⟨w.heap.size + 1, 0, none⟩ = _ := d0'
      have d1 : wf.drew.cell? ⟨w.heap.size + 1, 1, none⟩ = _ := d1'
      have d2 : wf.drew.cell? ⟨w.heap.size + 1, 2, none⟩ = _ := d2'
      have zE : wf.drew.heap.size = w2.heap.size := zD
      clear d0' d1' d2' k0 k1 k2 k3 kf kh D HA HB zD
      generalize wf.drew = wg at *
      have HA := HA2
      have HB := HB2
      clear HA2 HB2
      have k0 := HA.out.sn.c0
      have k1 := HA.out.sn.c1
      have k2 := HA.out.c2
      have k3 := HA.out.hc
      have kf := HA.out.fz
      have kh := HA.out.hf
      simp only [Nat.zero_add] at k0 k1
      have es := (HA.out.sn.os.cellAt pn (by simp <;> omega)).trans (by simp [HY.out] : _ = some (.int .i64 y))
      have fs := HA.out.sn.os.frozenAt pn
      go_wp2
      go_ret
      refine ⟨HB.out.setCell (HA.out.sn.os.lt sg rfl).1 _, ?_⟩
      have K := HA.out.sto pn (y + c)
      first | exact .inr ⟨_, HS.out, rfl, K⟩ | exact .inr ⟨_, _, HS.out, rfl, K⟩
    · have HS := Lib.hid (hST.trans (if_neg hvc))
      have hvc1 : (c == v) = false := by simpa using fun e => hvc (Eq.symm e)
      clear hST k2 hvc

      go_enter Try.func62, Try.ntmps62
      go_wp2_with fail
      refine (HC1 _).mono ?_
      rintro e w1 ⟨rfl, hb1⟩
      have F1 := F0.step hb1
      obtain ⟨c0, c1, c2, c3, c4, c5, c6, c7, c8⟩ := R.boxc (F1.at 1 rfl)
      obtain ⟨d0, d1, d2⟩ := (⟨F1.at 0 rfl 0 _ rfl, F1.at 0 rfl 1 _ rfl, F1.at 0 rfl 2 _ rfl⟩ : _ ∧ _ ∧ _)
      simp only [World.size_alloc] at d0 d1 d2
      have zA : w.heap.size < w1.heap.size := F1.le 1 rfl
      have zB : w.heap.size + 1 < w1.heap.size := by have := F1.le 0 rfl; simp at this; omega
      clear hb1 F0
      go_wp2_with fail
      refine (HC2 _).mono ?_
      rintro e w2 ⟨rfl, hb2⟩
      have F2 := F1.step hb2
      clear c0 c1 c2 c3 c4 c5 c6 c7 c8 d0 d1 d2
      obtain ⟨d0, d1, d2⟩ := (⟨F2.at 0 rfl 0 _ rfl, F2.at 0 rfl 1 _ rfl, F2.at 0 rfl 2 _ rfl⟩ : _ ∧ _ ∧ _)
      simp only [World.size_alloc] at d0 d1 d2
      have zC : w1.heap.size ≤ w2.heap.size := hb2.size
      have A2 := h.below F2.below
      have k0 := A2.sn.c0
      have k1 := A2.sn.c1
      have k2 := A2.c2
      have k3 := A2.hc
      have kf := A2.fz
      have kh := A2.hf
      simp only [Nat.zero_add] at k0 k1
      have n1 := A2.n1
      have n2 := A2.n2
      have n3 := A2.n3
      have m1 := A2.sn.n1
      have m2 := A2.sn.n2
      have m3 := A2.sn.n3
      obtain ⟨n1', n2', n3', m1', m2', m3'⟩ : ¬ B = H ∧ ¬ pg = H ∧ ¬ sg = H ∧ ¬ sg = pg ∧ ¬ B = pg ∧ ¬ B = sg := ⟨fun e => n1 e.symm, fun e => n2 e.symm, fun e => n3 e.symm, fun e => m1 e.symm, fun e => m2 e.symm, fun e => m3 e.symm⟩
      have lB := h.lB
      have lH := h.lH
      have lp := (h.sn.op.lt pg rfl).2
      have ls := (h.sn.os.lt sg rfl).2
      obtain ⟨q1, q2, q3, q4⟩ : ¬ w.heap.size + 1 = B ∧ ¬ w.heap.size + 1 = H ∧ ¬ w.heap.size + 1 = pg ∧ ¬ w.heap.size + 1 = sg := by omega
      have HA := Lib.hid A2
      have HB := Lib.hid (F2.below.mono HBW)
      clear hb2 F1 F2 A2 HC1 HC2 h k0 k1 k2 k3 kf kh
      have k0 := HA.out.sn.c0
      have k1 := HA.out.sn.c1
      have k2 := HA.out.c2
      have k3 := HA.out.hc
      have kf := HA.out.fz
      have kh := HA.out.hf
      simp only [Nat.zero_add] at k0 k1
      have ep := (HA.out.sn.op.cellAt x (by simp <;> omega)).trans (by simp [HX.out] : _ = some (.int .i64 v))
      have fp := HA.out.sn.op.frozenAt x
      go_wp2
      go_region
      go_wp2
      go_ret
      first | exact ⟨HB.out, .inl ⟨HS.out, rfl⟩⟩ | exact ⟨HB.out.drew, .inl ⟨HS.out, rfl⟩⟩

end Go.Proofs.Ytbjgigdkbjabaaa
