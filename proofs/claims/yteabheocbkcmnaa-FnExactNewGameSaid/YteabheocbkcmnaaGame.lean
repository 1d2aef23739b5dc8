/- Game: games: their values, and the laws' own functions on them. Each contract holds for every argument, under the premises that it states. -/
import Derived.Test.YteabheocbkcmnaaSets
import Derived.Test.YteabheocbkcmnaaPosR
import Derived.Test.YteabheocbkcmnaaNew
namespace Go.Proofs.Yteabheocbkcmnaa
set_option linter.unusedSimpArgs false
set_option linter.unusedVariables false
set_option linter.unnecessarySimpa false
open Go.RowKit Go.ChangeShapes Go.WideShapes Go.ChangeAt Go.Joins

structure G where
  rules : R
  start : P
  moves : List Int
  now : P
  res : Int
  deriving DecidableEq
/-- where a game's slices lie -/
structure GA where
  s : A2
  ma : Option Addr
  mc : Nat
  n : A2
@[go_sem] def G.cells (y : G) (A : GA) : Array Value := #[.int .i64 y.rules.pits, .int .i64 y.rules.seeds, .bool y.rules.stores, .bool y.rules.skip, .bool y.rules.relay, .bool y.rules.feed, .bool y.rules.again, .int .i64 y.rules.capture, .int .i64 y.rules.slam, .slice A.s.pa y.start.pits.length A.s.pc, .slice A.s.sa y.start.stores.length A.s.sc, .int .i64 y.start.player, .slice A.ma y.moves.length A.mc, .slice A.n.pa y.now.pits.length A.n.pc, .slice A.n.sa y.now.stores.length A.n.sc, .int .i64 y.now.player, .int .i64 y.res]
@[go_sem] def G.val (y : G) (A : GA) : Value := .agg (y.cells A)
structure GRow (w : World) (y : G) (A : GA) : Prop where
  start : PRow w y.start A.s.pa A.s.sa
  moves : Ints w A.ma y.moves
  now : PRow w y.now A.n.pa A.n.sa
theorem GRow.below {B : Nat} {w w' : World} {y : G} {A : GA} (h : GRow w y A) (hb : Below B w w') (hB : w.heap.size ≤ B) : GRow w' y A := ⟨h.start.below hb hB, h.moves.below hb hB, h.now.below hb hB⟩
/-- a game of the call's own, in the blocks from lo to hi -/
def GP (lo hi : Nat) (y : G) (A : GA) : World → Prop := fun w => ∃ m1 m2, lo ≤ m1 ∧ m1 ≤ m2 ∧ m2 ≤ hi ∧ PosP lo m1 y.start A.s.pa A.s.pc A.s.sa A.s.sc w ∧ RowP m1 m2 A.ma A.mc y.moves w ∧ PosP m2 hi y.now A.n.pa A.n.pc A.n.sa A.n.sc w
theorem GP.stab (lo hi : Nat) (y : G) (A : GA) : Stab lo hi (GP lo hi y A) := fun w w' ⟨m1, m2, h1, h2, h3, h4, h5, h6⟩ hk =>
  ⟨m1, m2, h1, h2, h3, PosP.stab _ _ _ _ _ _ _ w w' h4 (fun k k1 k2 => hk k (by omega) (by omega)), RowP.stab _ _ _ _ _ w w' h5 (fun k k1 k2 => hk k (by omega) (by omega)), PosP.stab _ _ _ _ _ _ _ w w' h6 (fun k k1 k2 => hk k (by omega) (by omega))⟩
theorem GP.row {lo hi : Nat} {y : G} {A : GA} {w : World} (h : GP lo hi y A w) : GRow w y A := by
  obtain ⟨m1, m2, h1, h2, h3, h4, h5, h6⟩ := h
  exact ⟨h4.1.row, own_row h5.1, h6.1.row⟩
theorem GP.le {lo lo' hi hi' : Nat} {y : G} {A : GA} {w : World} (h : GP lo hi y A w) (hl : lo' ≤ lo) (hh : hi ≤ hi') : GP lo' hi' y A w := by
  obtain ⟨m1, m2, h1, h2, h3, h4, h5, h6⟩ := h
  refine ⟨m1, m2, by omega, h2, by omega, ⟨⟨ownsRow_le h4.1.pits hl, ownsRow_le h4.1.stores hl, h4.1.apart⟩, h4.2⟩, h5, ⟨h6.1, fun k hk => by have := h6.2.1 k hk; omega, fun k hk => by have := h6.2.2 k hk; omega⟩⟩
/-- a game and a code, out of a call -/
def GRes (w : World) (y : G × Int) (e : Ending) (w' : World) : Prop := ∃ A : GA, e = .returned (.tuple #[y.1.val A, .int .i64 y.2]) ∧ GP w.heap.size w'.heap.size y.1 A w' ∧ Below w.heap.size w w'
theorem Fr.game {w0 w : World} {ls : List Res} (h : Fr w0 w ls) {lo : Nat} {y : G} {A : GA} (ho : GP lo w.heap.size y A w) : Fr w0 w (⟨lo, w.heap.size, GP lo w.heap.size y A⟩ :: ls) :=
  h.add _ _ _ (GP.stab _ _ _ _) ho (Nat.le_refl _)
def G.zero : G := ⟨⟨0, 0, false, false, false, false, false, 0, 0⟩, ⟨[], [], 0⟩, [], ⟨[], [], 0⟩, 0⟩
def GA.none : GA := ⟨⟨Option.none, 0, Option.none, 0⟩, Option.none, 0, ⟨Option.none, 0, Option.none, 0⟩⟩
theorem PosP.nil (lo hi : Nat) (n : Int) (w : World) : PosP lo hi ⟨[], [], n⟩ none 0 none 0 w := ⟨⟨World.ownsRow_nil _ _ _ _, World.ownsRow_nil _ _ _ _, .inl rfl⟩, fun k h => by simp [Value.ownBlock] at h, fun k h => by simp [Value.ownBlock] at h⟩
theorem RowP.nil (lo hi : Nat) (w : World) : RowP lo hi none 0 [] w := ⟨World.ownsRow_nil _ _ _ _, fun k h => by simp [Value.ownBlock] at h⟩
theorem GP.nil (lo hi : Nat) (h : lo ≤ hi) (w : World) : GP lo hi G.zero GA.none w := ⟨lo, lo, Nat.le_refl _, Nat.le_refl _, h, PosP.nil _ _ _ _, RowP.nil _ _ _, PosP.nil _ _ _ _⟩
/-- the lengths of a game's slices -/
structure G.Len (y : G) (n : Nat) : Prop where
  sp : y.start.pits.length ≤ n
  ss : y.start.stores.length ≤ n
  m : y.moves.length ≤ n
  np : y.now.pits.length ≤ n
  ns : y.now.stores.length ≤ n
theorem G.Len.mono {y : G} {n n' : Nat} (h : y.Len n) (hn : n ≤ n') : y.Len n' := ⟨Nat.le_trans h.sp hn, Nat.le_trans h.ss hn, Nat.le_trans h.m hn, Nat.le_trans h.np hn, Nat.le_trans h.ns hn⟩

set_option maxHeartbeats 8000000 in
theorem eqGame_c (x y : G) (k l : GA) (w : World) (hx : GRow w x k) (hy : GRow w y l) (m1 : x.Len maxLen) (m2 : y.Len maxLen) :
    Calls Try.prog 18 #[x.val k, y.val l] w fun e w' => e = .returned (.bool (decide (x = y))) ∧ Below w.heap.size w w' := by
  obtain ⟨xr, xs, xm, xn, xq⟩ := x
  obtain ⟨yr, ys, ym, yn, yq⟩ := y
  have F0 := ((Fr.start w).alloc (G.cells ⟨xr, xs, xm, xn, xq⟩ k) 29).alloc (G.cells ⟨yr, ys, ym, yn, yq⟩ l) 29
  go_enter Try.func18, Try.ntmps18
  go_wp2_with fail
  refine (eqRules_c xr yr _).mono ?_
  rintro e w1 ⟨rfl, hb1⟩
  have F1 := F0.step hb1
  have B1 := F1.below
  clear F0 hb1
  by_cases hr : xr = yr
  · subst hr
    have BX := F1.at 1 rfl
    have BY := F1.at 0 rfl
    simp only [World.size_alloc] at BY
    have p9 := BX 9 _ rfl
    have q9 := BY 9 _ rfl
    have p10 := BX 10 _ rfl
    have q10 := BY 10 _ rfl
    have p11 := BX 11 _ rfl
    have q11 := BY 11 _ rfl
    clear BX BY
    go_wp2_with fail
    refine (eqPosition_c xs ys k.s.pa k.s.sa l.s.pa l.s.sa k.s.pc k.s.sc l.s.pc l.s.sc _ (hx.start.below B1 (Nat.le_refl _)) (hy.start.below B1 (Nat.le_refl _)) m1.sp m1.ss m2.sp m2.ss).mono ?_
    rintro e w2 ⟨rfl, hb2⟩
    have F2 := F1.step hb2
    have B2 := F2.below
    clear F1 hb2 p9 p10 p11 q9 q10 q11 B1
    by_cases hp : xs = ys
    · subst hp
      have BX := F2.at 1 rfl
      have BY := F2.at 0 rfl
      simp only [World.size_alloc] at BY
      have p12 := BX 12 _ rfl
      have q12 := BY 12 _ rfl
      clear BX BY
      go_wp2_with fail
      refine (eqInt64S_c _ _ _ _ xm ym _ (hx.moves.below B2 (Nat.le_refl _)) (hy.moves.below B2 (Nat.le_refl _)) m1.m m2.m).mono ?_
      rintro e w3 ⟨rfl, n3, hw3⟩
      have F3 := F2.step (show Below _ _ w3 from hw3 ▸ below_draws _ _ n3)
      have B3 := F3.below
      clear F2 hw3 p12 q12 B2
      by_cases hm : xm = ym
      · subst hm
        have BX := F3.at 1 rfl
        have BY := F3.at 0 rfl
        simp only [World.size_alloc] at BY
        have p13 := BX 13 _ rfl
        have q13 := BY 13 _ rfl
        have p14 := BX 14 _ rfl
        have q14 := BY 14 _ rfl
        have p15 := BX 15 _ rfl
        have q15 := BY 15 _ rfl
        clear BX BY
        go_wp2_with fail
        refine (eqPosition_c xn yn k.n.pa k.n.sa l.n.pa l.n.sa k.n.pc k.n.sc l.n.pc l.n.sc _ (hx.now.below B3 (Nat.le_refl _)) (hy.now.below B3 (Nat.le_refl _)) m1.np m1.ns m2.np m2.ns).mono ?_
        rintro e w4 ⟨rfl, hb4⟩
        have F4 := F3.step hb4
        have B4 := F4.below
        clear F3 hb4 p13 p14 p15 q13 q14 q15 B3
        by_cases hn : xn = yn
        · subst hn
          have p16 := F4.at 1 rfl 16 _ rfl
          have q16 := F4.at 0 rfl 16 _ rfl
          simp only [World.size_alloc] at q16
          clear F4
          by_cases hq : xq = yq
          · subst hq
            go_wp2
            go_ret
            exact ⟨by simp, B4⟩
          · have hd : (xq != yq) = true := by simpa using hq
            have HT := Lib.hid hq
            clear hq
            go_wp2
            go_ret
            exact ⟨by simp [HT.out], B4⟩
        · have hd : decide (xn = yn) = false := decide_eq_false hn
          have HT := Lib.hid hn
          clear hn
          go_wp2
          go_ret
          exact ⟨by simp [HT.out], B4⟩
      · have hd : decide (xm = ym) = false := decide_eq_false hm
        have HT := Lib.hid hm
        clear hm
        go_wp2
        go_ret
        exact ⟨by simp [HT.out], B3⟩
    · have hd : decide (xs = ys) = false := decide_eq_false hp
      have HT := Lib.hid hp
      clear hp
      go_wp2
      go_ret
      exact ⟨by simp [HT.out], B2⟩
  · have hd : decide (xr = yr) = false := decide_eq_false hr
    have HT := Lib.hid hr
    clear hr
    go_wp2
    go_ret
    exact ⟨by simp [HT.out], B1⟩

/-- a game whose cells are marked -/
def MarkG (lo hi : Nat) (y : G) (A : GA) (k : Int) : World → Prop := fun w => ∃ m1 m2, lo ≤ m1 ∧ m1 ≤ m2 ∧ m2 ≤ hi ∧ MarkQ lo m1 y.start.pits.length y.start.stores.length A.s k w ∧
  RowP m1 m2 A.ma A.mc (marks (k + y.start.pits.length + y.start.stores.length) y.moves.length) w ∧ MarkQ m2 hi y.now.pits.length y.now.stores.length A.n (k + y.start.pits.length + y.start.stores.length + y.moves.length) w
theorem MarkG.stab (lo hi : Nat) (y : G) (A : GA) (k : Int) : Stab lo hi (MarkG lo hi y A k) := fun w w' ⟨m1, m2, h1, h2, h3, h4, h5, h6⟩ hk =>
  ⟨m1, m2, h1, h2, h3, MarkQ.stab _ _ _ _ _ _ w w' h4 (fun k k1 k2 => hk k (by omega) (by omega)), RowP.stab _ _ _ _ _ w w' h5 (fun k k1 k2 => hk k (by omega) (by omega)), MarkQ.stab _ _ _ _ _ _ w w' h6 (fun k k1 k2 => hk k (by omega) (by omega))⟩
theorem Fr.markG {w0 w : World} {ls : List Res} (h : Fr w0 w ls) {lo hi : Nat} {y : G} {A : GA} {k : Int} (hm : MarkG lo hi y A k w) (hh : hi ≤ w.heap.size) : Fr w0 w (⟨lo, hi, MarkG lo hi y A k⟩ :: ls) :=
  h.add _ _ _ (MarkG.stab _ _ _ _ _) hm hh
def G.size (y : G) : Int := (y.start.pits.length + y.start.stores.length + y.moves.length + y.now.pits.length + y.now.stores.length : Nat)
theorem marks_row {w : World} {lo hi c n : Nat} {a : Option Addr} {k : Int} {xs : List Int} (h : w.ownsRow lo 2 1 (.slice a n c) n ((marks k n).map (Value.int .i64))) (hh : ∀ b, (Value.slice a n c).ownBlock = some b → b < hi) : RowP lo hi a c (marks k n) w := by
  unfold RowP OwnI
  rw [marks_length]
  exact ⟨h, hh⟩
set_option maxRecDepth 100000 in
set_option maxHeartbeats 8000000 in
theorem markGame_c (lo hi : Nat) (y : G) (A : GA) (k : Int) (w : World) (h : GP lo hi y A w) (hh : hi ≤ w.heap.size) (hk : 0 ≤ k) (hk' : k + y.size ≤ 1099511627776) :
    Calls Try.prog 19 #[y.val A, .int .i64 k] w fun e w' => e = .returned (.int .i64 (k + y.size)) ∧ MarkG lo hi y A k w' ∧ Chg lo hi w w' := by
  obtain ⟨m1, m2, h1, h2, h3, h4, h5, h6⟩ := h
  unfold G.size at hk' ⊢
  push_cast at hk' ⊢
  have A0 := Bx.alloc w (y.cells A) 29 rfl
  have B0 := below_alloc1 w (.cells (y.cells A) 29)
  have s4 := PosP.stab _ _ _ _ _ _ _ w _ h4 (fun j j1 j2 => B0.block j (by omega))
  have s5 := RowP.stab _ _ _ _ _ w _ h5 (fun j j1 j2 => B0.block j (by omega))
  have s6 := PosP.stab _ _ _ _ _ _ _ w _ h6 (fun j j1 j2 => B0.block j (by omega))
  have HS := Lib.hid (⟨s4, s5, s6, A0⟩ : _ ∧ _ ∧ _ ∧ _)
  clear h4 h5 h6 s4 s5 s6 A0
  go_enter Try.func19, Try.ntmps19
  go_wp2_with fail
  refine (markPosition2_c lo m1 y.start A.s k _ HS.out.1.1 HS.out.1.2.1 HS.out.1.2.2 hk (by omega)).mono ?_
  rintro e w1 ⟨rfl, hm1, hc1⟩
  have z1 : w.heap.size + 1 ≤ w1.heap.size := by have := hc1.size; simpa using this
  have A1 := HS.out.2.2.2.chg hc1 (by simp) (by omega)
  have s5 := RowP.stab _ _ _ _ _ _ w1 HS.out.2.1 (fun j j1 j2 => hc1.block j (by simp; omega) (by omega))
  have s6 := PosP.stab _ _ _ _ _ _ _ _ w1 HS.out.2.2.1 (fun j j1 j2 => hc1.block j (by simp; omega) (by omega))
  have M1 : MarkQ lo m1 y.start.pits.length y.start.stores.length A.s k w1 := ⟨hm1, fun b hb => HS.out.1.2.1 b hb, fun b hb => HS.out.1.2.2 b hb⟩
  have C1 := Lib.hid ((Chg.ofBelow (lo := lo) (hi := hi) B0).trans (hc1.mono (Nat.le_refl _) (by omega)))
  have a12 := A1.box 12 _ rfl
  have HT := Lib.hid (⟨M1, s5, s6, A1⟩ : _ ∧ _ ∧ _ ∧ _)
  have zA : w.heap.size < w1.heap.size := by omega
  clear hm1 hc1 A1 s5 s6 M1 HS B0
  go_wp2_with fail
  refine (markInt64S_c m1 A.ma y.moves.length A.mc y.moves (k + y.start.pits.length + y.start.stores.length) _ HT.out.2.1.1 (by omega) (by omega)).mono ?_
  rintro e w2 ⟨rfl, hm2, hg2⟩
  have hc2 : Chg m1 m2 w1 w2 := Chg.ofGrown hg2 (fun b hb => ⟨(HT.out.2.1.1.lt b hb).1, HT.out.2.1.2 b hb⟩)
  have M1 := MarkQ.stab _ _ _ _ _ _ _ w2 HT.out.1 (fun j j1 j2 => hc2.block j (by omega) (by omega))
  have M2 : RowP m1 m2 A.ma A.mc (marks (k + y.start.pits.length + y.start.stores.length) y.moves.length) w2 := by
    unfold RowP OwnI
    rw [marks_length]
    exact ⟨hm2, HT.out.2.1.2⟩
  have s6 := PosP.stab _ _ _ _ _ _ _ _ w2 HT.out.2.2.1 (fun j j1 j2 => hc2.block j (by omega) (by omega))
  have A2 := HT.out.2.2.2.chg hc2 (by omega) (by omega)
  have C2 := Lib.hid (C1.out.trans (hc2.mono h1 h3))
  have z2 : w.heap.size + 1 ≤ w2.heap.size := by have := hc2.size; omega
  have a13 := A2.box 13 _ rfl
  have a14 := A2.box 14 _ rfl
  have a15 := A2.box 15 _ rfl
  have HU := Lib.hid (⟨M1, M2, s6⟩ : _ ∧ _ ∧ _)
  clear hm2 hg2 hc2 M1 M2 s6 A2 HT C1 a12
  go_wp2_with fail
  refine (markPosition2_c m2 hi y.now A.n (k + y.start.pits.length + y.start.stores.length + y.moves.length) _ HU.out.2.2.1 HU.out.2.2.2.1 HU.out.2.2.2.2 (by omega) (by omega)).mono ?_
  rintro e w3 ⟨rfl, hm3, hc3⟩
  have M1 := MarkQ.stab _ _ _ _ _ _ _ w3 HU.out.1 (fun j j1 j2 => hc3.block j (by omega) (by omega))
  have M2 := RowP.stab _ _ _ _ _ _ w3 HU.out.2.1 (fun j j1 j2 => hc3.block j (by omega) (by omega))
  have M3 : MarkQ m2 hi y.now.pits.length y.now.stores.length A.n (k + y.start.pits.length + y.start.stores.length + y.moves.length) w3 := ⟨hm3, fun b hb => HU.out.2.2.2.1 b hb, fun b hb => HU.out.2.2.2.2 b hb⟩
  have C3 := Lib.hid (C2.out.trans (hc3.mono (Nat.le_trans h1 h2) (Nat.le_refl _)))
  have HV : Hid (MarkG lo hi y A k w3) := ⟨m1, m2, h1, h2, h3, M1, M2, M3⟩
  clear hm3 hc3 M1 M2 M3 HU C2 a13 a14 a15
  go_wp2
  go_ret
  exact ⟨congrArg (fun z => Ending.returned (.int .i64 z)) (by omega), HV.out, C3.out⟩

set_option maxHeartbeats 4000000 in
theorem heldGame_c (lo hi : Nat) (y : G) (A : GA) (k : Int) (w : World) (h : MarkG lo hi y A k w) (hh : hi ≤ w.heap.size) (hk : 0 ≤ k) (hk' : k + y.size ≤ 1099511627776) :
    Calls Try.prog 20 #[y.val A, .int .i64 k] w fun e w' => e = .returned (.int .i64 (k + y.size)) ∧ Below w.heap.size w w' := by
  obtain ⟨m1, m2, h1, h2, h3, h4, h5, h6⟩ := h
  unfold G.size at hk' ⊢
  push_cast at hk' ⊢
  have F0 := (Fr.start w).alloc (y.cells A) 29
  have r1 := own_row h4.1.pits
  have r2 := own_row h4.1.stores
  have r3 : Ints w A.ma (marks (k + y.start.pits.length + y.start.stores.length) y.moves.length) := by
    have := h5.1
    unfold OwnI at this
    exact own_row this
  have r4 := own_row h6.1.pits
  have r5 := own_row h6.1.stores
  clear h4 h5 h6
  go_enter Try.func20, Try.ntmps20
  go_wp2_with fail
  refine (heldPosition_c y.start A.s k _ (Row.below r1 F0.below (Nat.le_refl _)) (Row.below r2 F0.below (Nat.le_refl _)) hk (by omega)).mono ?_
  rintro e w1 ⟨rfl, hb1⟩
  have F1 := F0.step hb1
  have a12 := F1.at 0 rfl 12 _ rfl
  have B1 := F1.below
  clear hb1 F0
  go_wp2_with fail
  refine (heldInt64S_c A.ma y.moves.length A.mc (k + y.start.pits.length + y.start.stores.length) _ (Row.below r3 B1 (Nat.le_refl _)) (by omega) (by omega)).mono ?_
  rintro e w2 ⟨rfl, rfl⟩
  have a13 := F1.at 0 rfl 13 _ rfl
  have a14 := F1.at 0 rfl 14 _ rfl
  have a15 := F1.at 0 rfl 15 _ rfl
  clear a12
  go_wp2_with fail
  refine (heldPosition_c y.now A.n (k + y.start.pits.length + y.start.stores.length + y.moves.length) _ (Row.below r4 B1 (Nat.le_refl _)) (Row.below r5 B1 (Nat.le_refl _)) (by omega) (by omega)).mono ?_
  rintro e w3 ⟨rfl, hb3⟩
  have B3 := (F1.step hb3).below
  clear a13 a14 a15 hb3 F1 r1 r2 r3 r4 r5
  go_wp2
  go_ret
  exact ⟨congrArg (fun z => Ending.returned (.int .i64 z)) (by omega), B3⟩

end Go.Proofs.Yteabheocbkcmnaa
