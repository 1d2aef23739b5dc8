/- Game: games: their values, and the laws' own functions on them. Each contract holds for every argument, under the premises that it states. -/
import Derived.Test.YteabheocbkcmnaaSets
import Derived.Test.YteabheocbkcmnaaPosR
import Derived.Test.YteabheocbkcmnaaNew
namespace Go.Proofs.Yteabheocbkcmnaa
set_option linter.unusedSimpArgs false
set_option linter.unusedVariables false
set_option linter.unnecessarySimpa false
open Go.RowKit Go.ChangeShapes Go.WideShapes Go.ChangeAt Go.Joins

structure G where
  rules : R
  start : P
  moves : List Int
  now : P
  res : Int
  deriving DecidableEq
/-- where a game's slices lie -/
structure GA where
  s : A2
  ma : Option Addr
  mc : Nat
  n : A2
@[go_sem] def G.cells (y : G) (A : GA) : Array Value := #[.int .i64 y.rules.pits, .int .i64 y.rules.seeds, .bool y.rules.stores, .bool y.rules.skip, .bool y.rules.relay, .bool y.rules.feed, .bool y.rules.again, .int .i64 y.rules.capture, .int .i64 y.rules.slam, .slice A.s.pa y.start.pits.length A.s.pc, .slice A.s.sa y.start.stores.length A.s.sc, .int .i64 y.start.player, .slice A.ma y.moves.length A.mc, .slice A.n.pa y.now.pits.length A.n.pc, .slice A.n.sa y.now.stores.length A.n.sc, .int .i64 y.now.player, .int .i64 y.res]
@[go_sem] def G.val (y : G) (A : GA) : Value := .agg (y.cells A)
structure GRow (w : World) (y : G) (A : GA) : Prop where
  start : PRow w y.start A.s.pa A.s.sa
  moves : Ints w A.ma y.moves
  now : PRow w y.now A.n.pa A.n.sa
theorem GRow.below {B : Nat} {w w' : World} {y : G} {A : GA} (h : GRow w y A) (hb : Below B w w') (hB : w.heap.size ≤ B) : GRow w' y A := ⟨h.start.below hb hB, h.moves.below hb hB, h.now.below hb hB⟩
/-- a game of the call's own, in the blocks from lo to hi -/
def GP (lo hi : Nat) (y : G) (A : GA) : World → Prop := fun w => ∃ m1 m2, lo ≤ m1 ∧ m1 ≤ m2 ∧ m2 ≤ hi ∧ PosP lo m1 y.start A.s.pa A.s.pc A.s.sa A.s.sc w ∧ RowP m1 m2 A.ma A.mc y.moves w ∧ PosP m2 hi y.now A.n.pa A.n.pc A.n.sa A.n.sc w
theorem GP.stab (lo hi : Nat) (y : G) (A : GA) : Stab lo hi (GP lo hi y A) := fun w w' ⟨m1, m2, h1, h2, h3, h4, h5, h6⟩ hk =>
  ⟨m1, m2, h1, h2, h3, PosP.stab _ _ _ _ _ _ _ w w' h4 (fun k k1 k2 => hk k (by omega) (by omega)), RowP.stab _ _ _ _ _ w w' h5 (fun k k1 k2 => hk k (by omega) (by omega)), PosP.stab _ _ _ _ _ _ _ w w' h6 (fun k k1 k2 => hk k (by omega) (by omega))⟩
theorem GP.row {lo hi : Nat} {y : G} {A : GA} {w : World} (h : GP lo hi y A w) : GRow w y A := by
  obtain ⟨m1, m2, h1, h2, h3, h4, h5, h6⟩ := h
  exact ⟨h4.1.row, own_row h5.1, h6.1.row⟩
theorem GP.le {lo lo' hi hi' : Nat} {y : G} {A : GA} {w : World} (h : GP lo hi y A w) (hl : lo' ≤ lo) (hh : hi ≤ hi') : GP lo' hi' y A w := by
  obtain ⟨m1, m2, h1, h2, h3, h4, h5, h6⟩ := h
  refine ⟨m1, m2, by omega, h2, by omega, ⟨⟨ownsRow_le h4.1.pits hl, ownsRow_le h4.1.stores hl, h4.1.apart⟩, h4.2⟩, h5, ⟨h6.1, fun k hk => by have := h6.2.1 k hk; omega, fun k hk => by have := h6.2.2 k hk; omega⟩⟩
/-- a game and a code, out of a call -/
def GRes (w : World) (y : G × Int) (e : Ending) (w' : World) : Prop := ∃ A : GA, e = .returned (.tuple #[y.1.val A, .int .i64 y.2]) ∧ GP w.heap.size w'.heap.size y.1 A w' ∧ Below w.heap.size w w'
theorem Fr.game {w0 w : World} {ls : List Res} (h : Fr w0 w ls) {lo : Nat} {y : G} {A : GA} (ho : GP lo w.heap.size y A w) : Fr w0 w (⟨lo, w.heap.size, GP lo w.heap.size y A⟩ :: ls) :=
  h.add _ _ _ (GP.stab _ _ _ _) ho (Nat.le_refl _)
def G.zero : G := ⟨⟨0, 0, false, false, false, false, false, 0, 0⟩, ⟨[], [], 0⟩, [], ⟨[], [], 0⟩, 0⟩
def GA.none : GA := ⟨⟨Option.none, 0, Option.none, 0⟩, Option.none, 0, ⟨Option.none, 0, Option.none, 0⟩⟩
theorem PosP.nil (lo hi : Nat) (n : Int) (w : World) : PosP lo hi ⟨[], [], n⟩ none 0 none 0 w := ⟨⟨World.ownsRow_nil _ _ _ _, World.ownsRow_nil _ _ _ _, .inl rfl⟩, fun k h => by simp [Value.ownBlock] at h, fun k h => by simp [Value.ownBlock] at h⟩
theorem RowP.nil (lo hi : Nat) (w : World) : RowP lo hi none 0 [] w := ⟨World.ownsRow_nil _ _ _ _, fun k h => by simp [Value.ownBlock] at h⟩
theorem GP.nil (lo hi : Nat) (h : lo ≤ hi) (w : World) : GP lo hi G.zero GA.none w := ⟨lo, lo, Nat.le_refl _, Nat.le_refl _, h, PosP.nil _ _ _ _, RowP.nil _ _ _, PosP.nil _ _ _ _⟩
/-- the lengths of a game's slices -/
structure G.Len (y : G) (n : Nat) : Prop where
  sp : y.start.pits.length ≤ n
  ss : y.start.stores.length ≤ n
  m : y.moves.length ≤ n
  np : y.now.pits.length ≤ n
  ns : y.now.stores.length ≤ n
theorem G.Len.mono {y : G} {n n' : Nat} (h : y.Len n) (hn : n ≤ n') : y.Len n' := ⟨Nat.le_trans h.sp hn, Nat.le_trans h.ss hn, Nat.le_trans h.m hn, Nat.le_trans h.np hn, Nat.le_trans h.ns hn⟩

set_option maxHeartbeats 8000000 in
theorem eqGame_c (x y : G) (k l : GA) (w : World) (hx : GRow w x k) (hy : GRow w y l) (m1 : x.Len maxLen) (m2 : y.Len maxLen) :
    Calls Try.prog 18 #[x.val k, y.val l] w fun e w' => e = .returned (.bool (decide (x = y))) ∧ Below w.heap.size w w' := by
  obtain ⟨xr, xs, xm, xn, xq⟩ := x
  obtain ⟨yr, ys, ym, yn, yq⟩ := y
  have F0 := ((Fr.start w).alloc (G.cells ⟨xr, xs, xm, xn, xq⟩ k) 29).alloc (G.cells ⟨yr, ys, ym, yn, yq⟩ l) 29
  go_enter Try.func18, Try.ntmps18
  go_wp2_with fail
  refine (eqRules_c xr yr _).mono ?_
  rintro e w1 ⟨rfl, hb1⟩
  have F1 := F0.step hb1
  have B1 := F1.below
  clear F0 hb1
  by_cases hr : xr = yr
  · subst hr
    have BX := F1.at 1 rfl
    have BY := F1.at 0 rfl
    simp only [World.size_alloc] at BY
    have p9 := BX 9 _ rfl
    have q9 := BY 9 _ rfl
    have p10 := BX 10 _ rfl
    have q10 := BY 10 _ rfl
    have p11 := BX 11 _ rfl
    have q11 := BY 11 _ rfl
    clear BX BY
    go_wp2_with fail
    refine (eqPosition_c xs ys k.s.pa k.s.sa l.s.pa l.s.sa k.s.pc k.s.sc l.s.pc l.s.sc _ (hx.start.below B1 (Nat.le_refl _)) (hy.start.below B1 (Nat.le_refl _)) m1.sp m1.ss m2.sp m2.ss).mono ?_
    rintro e w2 ⟨rfl, hb2⟩
    have F2 := F1.step hb2
    have B2 := F2.below
    clear F1 hb2 p9 p10 p11 q9 q10 q11 B1
    by_cases hp : xs = ys
    · subst hp
      have BX := F2.at 1 rfl
      have BY := F2.at 0 rfl
      simp only [World.size_alloc] at BY
      have p12 := BX 12 _ rfl
      have q12 := BY 12 _ rfl
      clear BX BY
      go_wp2_with fail
      refine (eqInt64S_c _ _ _ _ xm ym _ (hx.moves.below B2 (Nat.le_refl _)) (hy.moves.below B2 (Nat.le_refl _)) m1.m m2.m).mono ?_
      rintro e w3 ⟨rfl, n3, hw3⟩
      have F3 := F2.step (show Below _ _ w3 from hw3 ▸ below_draws _ _ n3)
      have B3 := F3.below
      clear F2 hw3 p12 q12 B2
      by_cases hm : xm = ym
      · subst hm
        have BX := F3.at 1 rfl
        have BY := F3.at 0 rfl
        simp only [World.size_alloc] at BY
        have p13 := BX 13 _ rfl
        have q13 := BY 13 _ rfl
        have p14 := BX 14 _ rfl
        have q14 := BY 14 _ rfl
        have p15 := BX 15 _ rfl
        have q15 := BY 15 _ rfl
        clear BX BY
        go_wp2_with fail
        refine (eqPosition_c xn yn k.n.pa k.n.sa l.n.pa l.n.sa k.n.pc k.n.sc l.n.pc l.n.sc _ (hx.now.below B3 (Nat.le_refl _)) (hy.now.below B3 (Nat.le_refl _)) m1.np m1.ns m2.np m2.ns).mono ?_
        rintro e w4 ⟨rfl, hb4⟩
        have F4 := F3.step hb4
        have B4 := F4.below
        clear F3 hb4 p13 p14 p15 q13 q14 q15 B3
        by_cases hn : xn = yn
        · subst hn
          have p16 := F4.at 1 rfl 16 _ rfl
          have q16 := F4.at 0 rfl 16 _ rfl
          simp only [World.size_alloc] at q16
          clear F4
          by_cases hq : xq = yq
          · subst hq
            go_wp2
            go_ret
            exact ⟨by simp, B4⟩
          · have hd : (xq != yq) = true := by simpa using hq
            have HT := Lib.hid hq
            clear hq
            go_wp2
            go_ret
            exact ⟨by simp [HT.out], B4⟩
        · have hd : decide (xn = yn) = false := decide_eq_false hn
          have HT := Lib.hid hn
          clear hn
          go_wp2
          go_ret
          exact ⟨by simp [HT.out], B4⟩
      · have hd : decide (xm = ym) = false := decide_eq_false hm
        have HT := Lib.hid hm
        clear hm
        go_wp2
        go_ret
        exact ⟨by simp [HT.out], B3⟩
    · have hd : decide (xs = ys) = false := decide_eq_false hp
      have HT := Lib.hid hp
      clear hp
      go_wp2
      go_ret
      exact ⟨by simp [HT.out], B2⟩
  · have hd : decide (xr = yr) = false := decide_eq_false hr
    have HT := Lib.hid hr
    clear hr
    go_wp2
    go_ret
    exact ⟨by simp [HT.out], B1⟩

/-- a game whose cells are marked -/
def MarkG (lo hi : Nat) (y : G) (A : GA) (k : Int) : World → Prop := fun w => ∃ m1 m2, lo ≤ m1 ∧ m1 ≤ m2 ∧ m2 ≤ hi ∧ MarkQ lo m1 y.start.pits.length y.start.stores.length A.s k w ∧
  RowP m1 m2 A.ma A.mc (marks (k + y.start.pits.length + y.start.stores.length) y.moves.length) w ∧ MarkQ m2 hi y.now.pits.length y.now.stores.length A.n (k + y.start.pits.length + y.start.stores.length + y.moves.length) w
theorem MarkG.stab (lo hi : Nat) (y : G) (A : GA) (k : Int) : Stab lo hi (MarkG lo hi y A k) := fun w w' ⟨m1, m2, h1, h2, h3, h4, h5, h6⟩ hk =>
  ⟨m1, m2, h1, h2, h3, MarkQ.stab _ _ _ _ _ _ w w' h4 (fun k k1 k2 => hk k (by omega) (by omega)), RowP.stab _ _ _ _ _ w w' h5 (fun k k1 k2 => hk k (by omega) (by omega)), MarkQ.stab _ _ _ _ _ _ w w' h6 (fun k k1 k2 => hk k (by omega) (by omega))⟩
theorem Fr.markG {w0 w : World} {ls : List Res} (h : Fr w0 w ls) {lo hi : Nat} {y : G} {A : GA} {k : Int} (hm : MarkG lo hi y A k w) (hh : hi ≤ w.heap.size) : Fr w0 w (⟨lo, hi, MarkG lo hi y A k⟩ :: ls) :=
  h.add _ _ _ (MarkG.stab _ _ _ _ _) hm hh
def G.size (y : G) : Int := (y.start.pits.length + y.start.stores.length + y.moves.length + y.now.pits.length + y.now.stores.length : Nat)
theorem marks_row {w : World} {lo hi c n : Nat} {a : Option Addr} {k : Int} {xs : List Int} (h : w.ownsRow lo 2 1 (.slice a n c) n ((marks k n).map (Value.int .i64))) (hh : ∀ b, (Value.slice a n c).ownBlock = some b → b < hi) : RowP lo hi a c (marks k n) w := by
  unfold RowP OwnI
  rw [marks_length]
  exact ⟨h, hh⟩
set_option maxRecDepth 100000 in
set_option maxHeartbeats 8000000 in
theorem markGame_c (lo hi : Nat) (y : G) (A : GA) (k : Int) (w : World) (h : GP lo hi y A w) (hh : hi ≤ w.heap.size) (hk : 0 ≤ k) (hk' : k + y.size ≤ 1099511627776) :
    Calls Try.prog 19 #[y.val A, .int .i64 k] w fun e w' => e = .returned (.int .i64 (k + y.size)) ∧ MarkG lo hi y A k w' ∧ Chg lo hi w w' := by
  obtain ⟨m1, m2, h1, h2, h3, h4, h5, h6⟩ := h
  unfold G.size at hk' ⊢
  push_cast at hk' ⊢
  have A0 := Bx.alloc w (y.cells A) 29 rfl
  have B0 := below_alloc1 w (.cells (y.cells A) 29)
  have s4 := PosP.stab _ _ _ _ _ _ _ w _ h4 (fun j j1 j2 => B0.block j (by omega))
  have s5 := RowP.stab _ _ _ _ _ w _ h5 (fun j j1 j2 => B0.block j (by omega))
  have s6 := PosP.stab _ _ _ _ _ _ _ w _ h6 (fun j j1 j2 => B0.block j (by omega))
  have HS := Lib.hid (⟨s4, s5, s6, A0⟩ : _ ∧ _ ∧ _ ∧ _)
  clear h4 h5 h6 s4 s5 s6 A0
  go_enter Try.func19, Try.ntmps19
  go_wp2_with fail
  refine (markPosition2_c lo m1 y.start A.s k _ HS.out.1.1 HS.out.1.2.1 HS.out.1.2.2 hk (by omega)).mono ?_
  rintro e w1 ⟨rfl, hm1, hc1⟩
  have z1 : w.heap.size + 1 ≤ w1.heap.size := by have := hc1.size; simpa using this
  have A1 := HS.out.2.2.2.chg hc1 (by simp) (by omega)
  have s5 := RowP.stab _ _ _ _ _ _ w1 HS.out.2.1 (fun j j1 j2 => hc1.block j (by simp; omega) (by omega))
  have s6 := PosP.stab _ _ _ _ _ _ _ _ w1 HS.out.2.2.1 (fun j j1 j2 => hc1.block j (by simp; omega) (by omega))
  have M1 : MarkQ lo m1 y.start.pits.length y.start.stores.length A.s k w1 := ⟨hm1, fun b hb => HS.out.1.2.1 b hb, fun b hb => HS.out.1.2.2 b hb⟩
  have C1 := Lib.hid ((Chg.ofBelow (lo := lo) (hi := hi) B0).trans (hc1.mono (Nat.le_refl _) (by omega)))
  have a12 := A1.box 12 _ rfl
  have HT := Lib.hid (⟨M1, s5, s6, A1⟩ : _ ∧ _ ∧ _ ∧ _)
  have zA : w.heap.size < w1.heap.size := by omega
  clear hm1 hc1 A1 s5 s6 M1 HS B0
  go_wp2_with fail
  refine (markInt64S_c m1 A.ma y.moves.length A.mc y.moves (k + y.start.pits.length + y.start.stores.length) _ HT.out.2.1.1 (by omega) (by omega)).mono ?_
  rintro e w2 ⟨rfl, hm2, hg2⟩
  have hc2 : Chg m1 m2 w1 w2 := Chg.ofGrown hg2 (fun b hb => ⟨(HT.out.2.1.1.lt b hb).1, HT.out.2.1.2 b hb⟩)
  have M1 := MarkQ.stab _ _ _ _ _ _ _ w2 HT.out.1 (fun j j1 j2 => hc2.block j (by omega) (by omega))
  have M2 : RowP m1 m2 A.ma A.mc (marks (k + y.start.pits.length + y.start.stores.length) y.moves.length) w2 := by
    unfold RowP OwnI
    rw [marks_length]
    exact ⟨hm2, HT.out.2.1.2⟩
  have s6 := PosP.stab _ _ _ _ _ _ _ _ w2 HT.out.2.2.1 (fun j j1 j2 => hc2.block j (by omega) (by omega))
  have A2 := HT.out.2.2.2.chg hc2 (by omega) (by omega)
  have C2 := Lib.hid (C1.out.trans (hc2.mono h1 h3))
  have z2 : w.heap.size + 1 ≤ w2.heap.size := by have := hc2.size; omega
  have a13 := A2.box 13 _ rfl
  have a14 := A2.box 14 _ rfl
  have a15 := A2.box 15 _ rfl
  have HU := Lib.hid (⟨M1, M2, s6⟩ : _ ∧ _ ∧ _)
  clear hm2 hg2 hc2 M1 M2 s6 A2 HT C1 a12
  go_wp2_with fail
  refine (markPosition2_c m2 hi y.now A.n (k + y.start.pits.length + y.start.stores.length + y.moves.length) _ HU.out.2.2.1 HU.out.2.2.2.1 HU.out.2.2.2.2 (by omega) (by omega)).mono ?_
  rintro e w3 ⟨rfl, hm3, hc3⟩
  have M1 := MarkQ.stab _ _ _ _ _ _ _ w3 HU.out.1 (fun j j1 j2 => hc3.block j (by omega) (by omega))
  have M2 := RowP.stab _ _ _ _ _ _ w3 HU.out.2.1 (fun j j1 j2 => hc3.block j (by omega) (by omega))
  have M3 : MarkQ m2 hi y.now.pits.length y.now.stores.length A.n (k + y.start.pits.length + y.start.stores.length + y.moves.length) w3 := ⟨hm3, fun b hb => HU.out.2.2.2.1 b hb, fun b hb => HU.out.2.2.2.2 b hb⟩
  have C3 := Lib.hid (C2.out.trans (hc3.mono (Nat.le_trans h1 h2) (Nat.le_refl _)))
  have HV : Hid (MarkG lo hi y A k w3) := ⟨m1, m2, h1, h2, h3, M1, M2, M3⟩
  clear hm3 hc3 M1 M2 M3 HU C2 a13 a14 a15
  go_wp2
  go_ret
  exact ⟨congrArg (fun z => Ending.returned (.int .i64 z)) (by omega), HV.out, C3.out⟩

set_option maxHeartbeats 4000000 in
theorem heldGame_c (lo hi : Nat) (y : G) (A : GA) (k : Int) (w : World) (h : MarkG lo hi y A k w) (hh : hi ≤ w.heap.size) (hk : 0 ≤ k) (hk' : k + y.size ≤ 1099511627776) :
    Calls Try.prog 20 #[y.val A, .int .i64 k] w fun e w' => e = .returned (.int .i64 (k + y.size)) ∧ Below w.heap.size w w' := by
  obtain ⟨m1, m2, h1, h2, h3, h4, h5, h6⟩ := h
  unfold G.size at hk' ⊢
  push_cast at hk' ⊢
  have F0 := (Fr.start w).alloc (y.cells A) 29
  have r1 := own_row h4.1.pits
  have r2 := own_row h4.1.stores
  have r3 : Ints w A.ma (marks (k + y.start.pits.length + y.start.stores.length) y.moves.length) := by
    have := h5.1
    unfold OwnI at this
    exact own_row this
  have r4 := own_row h6.1.pits
  have r5 := own_row h6.1.stores
  clear h4 h5 h6
  go_enter Try.func20, Try.ntmps20
  go_wp2_with fail
  refine (heldPosition_c y.start A.s k _ (Row.below r1 F0.below (Nat.le_refl _)) (Row.below r2 F0.below (Nat.le_refl _)) hk (by omega)).mono ?_
  rintro e w1 ⟨rfl, hb1⟩
  have F1 := F0.step hb1
  have a12 := F1.at 0 rfl 12 _ rfl
  have B1 := F1.below
  clear hb1 F0
  go_wp2_with fail
  refine (heldInt64S_c A.ma y.moves.length A.mc (k + y.start.pits.length + y.start.stores.length) _ (Row.below r3 B1 (Nat.le_refl _)) (by omega) (by omega)).mono ?_
  rintro e w2 ⟨rfl, rfl⟩
  have a13 := F1.at 0 rfl 13 _ rfl
  have a14 := F1.at 0 rfl 14 _ rfl
  have a15 := F1.at 0 rfl 15 _ rfl
  clear a12
  go_wp2_with fail
  refine (heldPosition_c y.now A.n (k + y.start.pits.length + y.start.stores.length + y.moves.length) _ (Row.below r4 B1 (Nat.le_refl _)) (Row.below r5 B1 (Nat.le_refl _)) (by omega) (by omega)).mono ?_
  rintro e w3 ⟨rfl, hb3⟩
  have B3 := (F1.step hb3).below
  clear a13 a14 a15 hb3 F1 r1 r2 r3 r4 r5
  go_wp2
  go_ret
  exact ⟨congrArg (fun z => Ending.returned (.int .i64 z)) (by omega), B3⟩


/-! ### GameA: games as arguments of a law. Each contract holds for every argument, under the premises that it states. -/
/-- a game of the call's own -/
structure GOwn (w : World) (base : Nat) (y : G) (A : GA) : Prop where
  start : POwn w base y.start A.s.pa A.s.pc A.s.sa A.s.sc
  moves : OwnI w base A.ma A.mc y.moves
  now : POwn w base y.now A.n.pa A.n.pc A.n.sa A.n.sc
theorem GOwn.row {w : World} {base : Nat} {y : G} {A : GA} (h : GOwn w base y A) : GRow w y A := ⟨h.start.row, own_row h.moves, h.now.row⟩
theorem GOwn.below {w w' : World} {B base : Nat} {y : G} {A : GA} (h : GOwn w base y A) (hb : Below B w w') (hB : w.heap.size ≤ B) : GOwn w' base y A := ⟨h.start.below hb hB, own_below h.moves hb hB, h.now.below hb hB⟩
theorem POwn.setG {w : World} {base : Nat} {p : P} {pa sa : Option Addr} {pc sc : Nat} (h : POwn w base p pa pc sa sc) {q : Addr} (hp : q.block < base) (u : Value) : POwn (w.setCell q u) base p pa pc sa sc := ⟨ownsRow_setCell_below h.pits hp u, ownsRow_setCell_below h.stores hp u, h.apart⟩
theorem POwn.setsG {base nb : Nat} {p : P} {pa sa : Option Addr} {pc sc : Nat} (hn : nb < base) : ∀ (vs : List Value) (o : Nat) {w : World}, POwn w base p pa pc sa sc → POwn (w.setCells nb o vs) base p pa pc sa sc
  | [], o, w, h => h
  | v :: vs, o, w, h => POwn.setsG hn vs (o + 1) (h.setG (q := ⟨nb, o, none⟩) hn v)
theorem ownI_sets {base nb : Nat} {a : Option Addr} {c : Nat} {xs : List Int} (hn : nb < base) : ∀ (vs : List Value) (o : Nat) {w : World}, OwnI w base a c xs → OwnI (w.setCells nb o vs) base a c xs
  | [], o, w, h => h
  | v :: vs, o, w, h => ownI_sets hn vs (o + 1) (w := w.setCell ⟨nb, o, none⟩ v) (ownsRow_setCell_below h hn v)
theorem POwn.leG {w : World} {base base' : Nat} {p : P} {pa sa : Option Addr} {pc sc : Nat} (h : POwn w base p pa pc sa sc) (hb : base' ≤ base) : POwn w base' p pa pc sa sc := ⟨ownsRow_le h.pits hb, ownsRow_le h.stores hb, h.apart⟩

def szG (left : Int) (y : G) : Int := if szP left y.start < 0 then -1 else if szI (szP left y.start) y.moves.length < 0 then -1 else szP (szI (szP left y.start) y.moves.length) y.now
theorem szP_negG {left : Int} {p : P} (h : szP left p < 0) (h0 : 0 ≤ left) : szP left p = -1 := by
  unfold szP szI at h ⊢
  repeat' split
  all_goals (try omega)
  all_goals (repeat' split at h)
  all_goals omega
theorem szP_len2G {left : Int} {p : P} (h : ¬ szP left p < 0) (h0 : 0 ≤ left) (h1 : left ≤ 1048576) : p.pits.length ≤ 1048576 ∧ p.stores.length ≤ 1048576 ∧ 0 ≤ szP left p ∧ szP left p ≤ 1048576 := by
  unfold szP szI at h ⊢
  repeat' split
  all_goals (try omega)
  all_goals (repeat' split at h)
  all_goals (try omega)
theorem szI_len2G {left : Int} {n : Nat} (h : ¬ szI left n < 0) (h0 : 0 ≤ left) (h1 : left ≤ 1048576) : n ≤ 1048576 ∧ 0 ≤ szI left n ∧ szI left n ≤ 1048576 := by
  unfold szI at h ⊢
  repeat' split
  all_goals (try omega)
  all_goals (repeat' split at h)
  all_goals (try omega)
theorem szI_negG {left : Int} {n : Nat} (h : szI left n < 0) (h0 : 0 ≤ left) : szI left n = -1 := by
  unfold szI at h ⊢
  repeat' split
  all_goals (try omega)
  all_goals (repeat' split at h)
  all_goals omega
theorem szG_len {y : G} (h : ¬ szG 1048576 y < 0) : y.Len 1048576 := by
  unfold szG at h
  split at h
  · omega
  · rename_i h1
    split at h
    · omega
    · rename_i h2
      obtain ⟨a, b, c, d⟩ := szP_len2G h1 (by omega) (by omega)
      obtain ⟨e, f, g⟩ := szI_len2G h2 c d
      obtain ⟨a', b', c', d'⟩ := szP_len2G h f g
      exact ⟨a, b, e, a', b'⟩
set_option maxHeartbeats 4000000 in
theorem szGame_c (y : G) (A : GA) (left : Int) (w : World) (hl : 0 ≤ left) (hl' : left ≤ 1048576) (hm : y.Len maxLen) :
    Calls Try.prog 27 #[y.val A, .int .i64 left] w fun e w' => e = .returned (.int .i64 (szG left y)) ∧ Below w.heap.size w w' := by
  have F0 := (Fr.start w).alloc (y.cells A) 44
  go_enter Try.func27, Try.ntmps27
  go_wp2_with fail
  refine (szPosition_c y.start A.s.pa A.s.sa A.s.pc A.s.sc _ _ hl hl' hm.sp hm.ss).mono ?_
  rintro e w1 ⟨rfl, hb1⟩
  have F1 := F0.step hb1
  by_cases h : szP left y.start < 0
  · have HS : Hid (szG left y = -1) := by unfold Hid; rw [szG, if_pos h]
    have B1 := F1.below
    clear F0 F1 hb1
    go_wp2
    go_ret
    exact ⟨by rw [HS.out]; rfl, B1⟩
  obtain ⟨_, _, h2, h3⟩ := szP_len2G h hl hl'
  have BX := F1.at 0 rfl
  have q12 := BX 12 _ rfl
  have B1 := F1.below
  clear BX F0 hb1
  go_wp2_with fail
  refine (szInt64S_c A.ma y.moves.length A.mc _ _ h2 h3 hm.m).mono ?_
  rintro e w1' ⟨rfl, rfl⟩
  by_cases h4 : szI (szP left y.start) y.moves.length < 0
  · have HS : Hid (szG left y = -1) := by unfold Hid; rw [szG, if_neg (by omega), if_pos h4]
    go_wp2
    go_ret
    exact ⟨by rw [HS.out]; rfl, B1⟩
  have HS : Hid (szG left y = szP (szI (szP left y.start) y.moves.length) y.now) := by unfold Hid; rw [szG, if_neg (by omega), if_neg (by omega)]
  obtain ⟨_, h5, h6⟩ := szI_len2G h4 h2 h3
  have BX := F1.at 0 rfl
  have q13 := BX 13 _ rfl
  have q14 := BX 14 _ rfl
  have q15 := BX 15 _ rfl
  clear BX q12
  go_wp2_with fail
  refine (szPosition_c y.now A.n.pa A.n.sa A.n.pc A.n.sc _ _ h5 h6 hm.np hm.ns).mono ?_
  rintro e w2 ⟨rfl, hb2⟩
  have B2 := (F1.step hb2).below
  clear hb2 F1 B1 q13 q14 q15
  by_cases h7 : szP (szI (szP left y.start) y.moves.length) y.now < 0
  · have H5 := Lib.hid (szP_negG h7 h5)
    go_wp2
    go_ret
    exact ⟨by rw [HS.out, H5.out]; rfl, B2⟩
  · go_wp2
    go_ret
    exact ⟨by rw [HS.out]; rfl, B2⟩

set_option maxRecDepth 100000 in
set_option maxHeartbeats 8000000 in
theorem toGame_c (y : G) (A : GA) (w : World) (h : GRow w y A) (m : y.Len 1048576) :
    Calls Try.prog 29 #[y.val A] w fun e w' => ∃ A', e = .returned (y.val A') ∧ GOwn w' w.heap.size y A' ∧ Below w.heap.size w w' := by
  obtain ⟨h1, h2, h3⟩ := h
  have A0 : Bx w.heap.size (y.cells A).toList (((w.alloc (.cells (y.cells A) 44)).alloc (.cells #[.int .i64 0, .int .i64 0, .bool false, .bool false, .bool false, .bool false, .bool false, .int .i64 0, .int .i64 0, .slice none 0 0, .slice none 0 0, .int .i64 0, .slice none 0 0, .slice none 0 0, .slice none 0 0, .int .i64 0, .int .i64 0] 29)).alloc (.cells #[.int .i64 0, .int .i64 0, .bool false, .bool false, .bool false, .bool false, .bool false, .int .i64 0, .int .i64 0, .slice none 0 0, .slice none 0 0, .int .i64 0, .slice none 0 0, .slice none 0 0, .slice none 0 0, .int .i64 0, .int .i64 0] 29)) := ((Bx.alloc w _ _ rfl).allocO (by simp) _ _).allocO (by simp; omega) _ _
  have R0 : Bx (w.heap.size + 1) [.int .i64 0, .int .i64 0, .bool false, .bool false, .bool false, .bool false, .bool false, .int .i64 0, .int .i64 0, .slice none 0 0, .slice none 0 0, .int .i64 0, .slice none 0 0, .slice none 0 0, .slice none 0 0, .int .i64 0, .int .i64 0] (((w.alloc (.cells (y.cells A) 44)).alloc (.cells #[.int .i64 0, .int .i64 0, .bool false, .bool false, .bool false, .bool false, .bool false, .int .i64 0, .int .i64 0, .slice none 0 0, .slice none 0 0, .int .i64 0, .slice none 0 0, .slice none 0 0, .slice none 0 0, .int .i64 0, .int .i64 0] 29)).alloc (.cells #[.int .i64 0, .int .i64 0, .bool false, .bool false, .bool false, .bool false, .bool false, .int .i64 0, .int .i64 0, .slice none 0 0, .slice none 0 0, .int .i64 0, .slice none 0 0, .slice none 0 0, .slice none 0 0, .int .i64 0, .int .i64 0] 29)) := (Bx.alloc _ _ _ (by simp)).allocO (by simp) _ _
  have O0 : Bx (w.heap.size + 1 + 1) [.int .i64 0, .int .i64 0, .bool false, .bool false, .bool false, .bool false, .bool false, .int .i64 0, .int .i64 0, .slice none 0 0, .slice none 0 0, .int .i64 0, .slice none 0 0, .slice none 0 0, .slice none 0 0, .int .i64 0, .int .i64 0] (((w.alloc (.cells (y.cells A) 44)).alloc (.cells #[.int .i64 0, .int .i64 0, .bool false, .bool false, .bool false, .bool false, .bool false, .int .i64 0, .int .i64 0, .slice none 0 0, .slice none 0 0, .int .i64 0, .slice none 0 0, .slice none 0 0, .slice none 0 0, .int .i64 0, .int .i64 0] 29)).alloc (.cells #[.int .i64 0, .int .i64 0, .bool false, .bool false, .bool false, .bool false, .bool false, .int .i64 0, .int .i64 0, .slice none 0 0, .slice none 0 0, .int .i64 0, .slice none 0 0, .slice none 0 0, .slice none 0 0, .int .i64 0, .int .i64 0] 29)) := Bx.alloc _ _ _ (by simp)
  have B0 : Below w.heap.size w (((w.alloc (.cells (y.cells A) 44)).alloc (.cells #[.int .i64 0, .int .i64 0, .bool false, .bool false, .bool false, .bool false, .bool false, .int .i64 0, .int .i64 0, .slice none 0 0, .slice none 0 0, .int .i64 0, .slice none 0 0, .slice none 0 0, .slice none 0 0, .int .i64 0, .int .i64 0] 29)).alloc (.cells #[.int .i64 0, .int .i64 0, .bool false, .bool false, .bool false, .bool false, .bool false, .int .i64 0, .int .i64 0, .slice none 0 0, .slice none 0 0, .int .i64 0, .slice none 0 0, .slice none 0 0, .slice none 0 0, .int .i64 0, .int .i64 0] 29)) := below_alloc3 _ _ _ _
  go_enter Try.func29, Try.ntmps29
  go_upto_region 2 with fail
  go_cut [1, 2, 3] from 0 to 23 (fun s1 s2 s3 wx => s1 = .pointer (some ⟨w.heap.size, 0, none⟩) ∧ s2 = .pointer (some ⟨w.heap.size + 1, 0, none⟩) ∧ s3 = .pointer (some ⟨w.heap.size + 1 + 1, 0, none⟩) ∧ Bx w.heap.size (y.cells A).toList wx ∧ Bx (w.heap.size + 1) [.int .i64 0, .int .i64 0, .bool false, .bool false, .bool false, .bool false, .bool false, .int .i64 0, .int .i64 0, .slice none 0 0, .slice none 0 0, .int .i64 0, .slice none 0 0, .slice none 0 0, .slice none 0 0, .int .i64 0, .int .i64 0] wx ∧ Bx (w.heap.size + 1 + 1) [.int .i64 y.rules.pits, .int .i64 y.rules.seeds, .bool y.rules.stores, .bool y.rules.skip, .bool y.rules.relay, .bool y.rules.feed, .bool y.rules.again, .int .i64 y.rules.capture, .int .i64 y.rules.slam, .slice none 0 0, .slice none 0 0, .int .i64 0, .slice none 0 0, .slice none 0 0, .slice none 0 0, .int .i64 0, .int .i64 0] wx ∧ Below w.heap.size w wx)
  case first =>
    go_wp2_with fail
    refine (toRules_c y.rules _).mono ?_
    rintro e w1 ⟨rfl, hb1⟩
    simp only [World.size_alloc] at hb1
    have A1 := A0.below hb1 (by omega)
    have R1 := R0.below hb1 (by omega)
    have O1 := O0.below hb1 (by omega)
    have B1 := B0.trans (hb1.mono (by omega))
    clear A0 R0 O0 B0 hb1
    have q0 := O1.box 0 _ rfl
    have q1 := O1.box 1 _ rfl
    have q2 := O1.box 2 _ rfl
    have q3 := O1.box 3 _ rfl
    have q4 := O1.box 4 _ rfl
    have q5 := O1.box 5 _ rfl
    have q6 := O1.box 6 _ rfl
    have q7 := O1.box 7 _ rfl
    have q8 := O1.box 8 _ rfl
    have qf := O1.free
    have z1 := O1.lt (by simp)
    have K0 := Bx.setsO (nb := w.heap.size + 1 + 1) (by omega) [.int .i64 y.rules.pits, .int .i64 y.rules.seeds, .bool y.rules.stores, .bool y.rules.skip, .bool y.rules.relay, .bool y.rules.feed, .bool y.rules.again, .int .i64 y.rules.capture, .int .i64 y.rules.slam] 0 A1
    simp only [World.setCells, setL, List.set_cons_succ, List.set_cons_zero, Nat.reduceAdd] at K0
    have K0 := Lib.hid K0
    have K1 := Bx.setsO (nb := w.heap.size + 1 + 1) (by omega) [.int .i64 y.rules.pits, .int .i64 y.rules.seeds, .bool y.rules.stores, .bool y.rules.skip, .bool y.rules.relay, .bool y.rules.feed, .bool y.rules.again, .int .i64 y.rules.capture, .int .i64 y.rules.slam] 0 R1
    simp only [World.setCells, setL, List.set_cons_succ, List.set_cons_zero, Nat.reduceAdd] at K1
    have K1 := Lib.hid K1
    have K2 := Bx.sets (vs := [.int .i64 y.rules.pits, .int .i64 y.rules.seeds, .bool y.rules.stores, .bool y.rules.skip, .bool y.rules.relay, .bool y.rules.feed, .bool y.rules.again, .int .i64 y.rules.capture, .int .i64 y.rules.slam]) (o := 0) O1 (by simp)
    simp only [World.setCells, setL, List.set_cons_succ, List.set_cons_zero, Nat.reduceAdd] at K2
    have K2 := Lib.hid K2
    have K3 := below_sets (nb := w.heap.size + 1 + 1) (by omega) [.int .i64 y.rules.pits, .int .i64 y.rules.seeds, .bool y.rules.stores, .bool y.rules.skip, .bool y.rules.relay, .bool y.rules.feed, .bool y.rules.again, .int .i64 y.rules.capture, .int .i64 y.rules.slam] 0 B1
    simp only [World.setCells, setL, List.set_cons_succ, List.set_cons_zero, Nat.reduceAdd] at K3
    have K3 := Lib.hid K3
    clear A1 R1 O1 B1
    go_wp2_with fail
    go_meet
    case rel => exact ⟨rfl, rfl, rfl, K0.out, K1.out, K2.out, K3.out⟩
  case rest =>
  clear A0 R0 O0 B0
  obtain ⟨rfl, rfl, rfl, A0, R0, O0, B0⟩ := hcut
  have p9 := A0.box 9 _ rfl
  have p10 := A0.box 10 _ rfl
  have p11 := A0.box 11 _ rfl
  have zz : w.heap.size + 1 + 1 < wc.heap.size := O0.lt (by simp)
  go_upto_region 3 with fail
  go_cut [] from 4 to 23 (fun wx => ∃ sp spc ss ssc, Bx w.heap.size (y.cells A).toList wx ∧ Bx (w.heap.size + 1) [.int .i64 0, .int .i64 0, .bool false, .bool false, .bool false, .bool false, .bool false, .int .i64 0, .int .i64 0, .slice none 0 0, .slice none 0 0, .int .i64 0, .slice none 0 0, .slice none 0 0, .slice none 0 0, .int .i64 0, .int .i64 0] wx ∧ Bx (w.heap.size + 1 + 1) [.int .i64 y.rules.pits, .int .i64 y.rules.seeds, .bool y.rules.stores, .bool y.rules.skip, .bool y.rules.relay, .bool y.rules.feed, .bool y.rules.again, .int .i64 y.rules.capture, .int .i64 y.rules.slam, .slice sp y.start.pits.length spc, .slice ss y.start.stores.length ssc, .int .i64 y.start.player, .slice none 0 0, .slice none 0 0, .slice none 0 0, .int .i64 0, .int .i64 0] wx ∧ Below w.heap.size w wx ∧ POwn wx (w.heap.size + 1 + 1 + 1) y.start sp spc ss ssc)
  case first =>
    go_wp2_with fail
    refine (toPosition_c y.start A.s.pa A.s.sa A.s.pc A.s.sc _ (h1.below B0 (Nat.le_refl _)) m.sp m.ss).mono ?_
    rintro e w1 ⟨sp, spc, ss, ssc, rfl, ho, hb1⟩
    have HO := Lib.hid (ho.leG (show w.heap.size + 1 + 1 + 1 ≤ _ from zz))
    clear ho
    have A1 := A0.below hb1 (by omega)
    have R1 := R0.below hb1 (by omega)
    have O1 := O0.below hb1 (by omega)
    have B1 := B0.trans (hb1.mono (by omega))
    clear A0 R0 O0 B0 hb1 p9 p10 p11
    have q9 := O1.box 9 _ rfl
    have q10 := O1.box 10 _ rfl
    have q11 := O1.box 11 _ rfl
    have qf := O1.free
    have z1 := O1.lt (by simp)
    have K0 := Bx.setsO (nb := w.heap.size + 1 + 1) (by omega) [.slice sp y.start.pits.length spc, .slice ss y.start.stores.length ssc, .int .i64 y.start.player] 9 A1
    simp only [World.setCells, setL, List.set_cons_succ, List.set_cons_zero, Nat.reduceAdd] at K0
    have K0 := Lib.hid K0
    have K1 := Bx.setsO (nb := w.heap.size + 1 + 1) (by omega) [.slice sp y.start.pits.length spc, .slice ss y.start.stores.length ssc, .int .i64 y.start.player] 9 R1
    simp only [World.setCells, setL, List.set_cons_succ, List.set_cons_zero, Nat.reduceAdd] at K1
    have K1 := Lib.hid K1
    have K2 := Bx.sets (vs := [.slice sp y.start.pits.length spc, .slice ss y.start.stores.length ssc, .int .i64 y.start.player]) (o := 9) O1 (by simp)
    simp only [World.setCells, setL, List.set_cons_succ, List.set_cons_zero, Nat.reduceAdd] at K2
    have K2 := Lib.hid K2
    have K3 := below_sets (nb := w.heap.size + 1 + 1) (by omega) [.slice sp y.start.pits.length spc, .slice ss y.start.stores.length ssc, .int .i64 y.start.player] 9 B1
    simp only [World.setCells, setL, List.set_cons_succ, List.set_cons_zero, Nat.reduceAdd] at K3
    have K3 := Lib.hid K3
    have K4 := POwn.setsG (nb := w.heap.size + 1 + 1) (by omega) [.slice sp y.start.pits.length spc, .slice ss y.start.stores.length ssc, .int .i64 y.start.player] 9 HO.out
    simp only [World.setCells, setL, List.set_cons_succ, List.set_cons_zero, Nat.reduceAdd] at K4
    have K4 := Lib.hid K4
    clear A1 R1 O1 B1
    go_wp2_with fail
    go_meet
    case rel => exact ⟨sp, spc, ss, ssc, K0.out, K1.out, K2.out, K3.out, K4.out⟩
  case rest =>
  clear A0 R0 O0 B0 zz p9 p10 p11
  obtain ⟨sp, spc, ss, ssc, A0, R0, O0, B0, P0⟩ := hcut
  have p12 := A0.box 12 _ rfl
  have zz : w.heap.size + 1 + 1 < wc.heap.size := O0.lt (by simp)
  go_upto_region 4 with fail
  go_cut [] from 4 to 23 (fun wx => ∃ mg, Bx w.heap.size (y.cells A).toList wx ∧ Bx (w.heap.size + 1) [.int .i64 0, .int .i64 0, .bool false, .bool false, .bool false, .bool false, .bool false, .int .i64 0, .int .i64 0, .slice none 0 0, .slice none 0 0, .int .i64 0, .slice none 0 0, .slice none 0 0, .slice none 0 0, .int .i64 0, .int .i64 0] wx ∧ Bx (w.heap.size + 1 + 1) [.int .i64 y.rules.pits, .int .i64 y.rules.seeds, .bool y.rules.stores, .bool y.rules.skip, .bool y.rules.relay, .bool y.rules.feed, .bool y.rules.again, .int .i64 y.rules.capture, .int .i64 y.rules.slam, .slice sp y.start.pits.length spc, .slice ss y.start.stores.length ssc, .int .i64 y.start.player, .slice (some ⟨mg, 0, none⟩) y.moves.length y.moves.length, .slice none 0 0, .slice none 0 0, .int .i64 0, .int .i64 0] wx ∧ Below w.heap.size w wx ∧ POwn wx (w.heap.size + 1 + 1 + 1) y.start sp spc ss ssc ∧ OwnI wx (w.heap.size + 1 + 1 + 1) (some ⟨mg, 0, none⟩) y.moves.length y.moves)
  case first =>
    go_wp2_with fail
    refine (toInt64S_c A.ma A.mc y.moves _ (h2.below B0 (Nat.le_refl _)) m.m).mono ?_
    rintro e w1 ⟨rfl, ho, hb1⟩
    obtain ⟨mg, hmg⟩ : ∃ mg, mg = wc.heap.size := ⟨_, rfl⟩
    rw [← hmg] at ho ⊢
    have HO : Hid (OwnI w1 (w.heap.size + 1 + 1 + 1) (some ⟨mg, 0, none⟩) y.moves.length y.moves) := ownsRow_le ho (show w.heap.size + 1 + 1 + 1 ≤ _ by omega)
    have HMG := Lib.hid hmg
    clear hmg
    clear ho
    have A1 := A0.below hb1 (by omega)
    have R1 := R0.below hb1 (by omega)
    have O1 := O0.below hb1 (by omega)
    have B1 := B0.trans (hb1.mono (by omega))
    have P1 := P0.below hb1 (Nat.le_refl _)
    clear A0 R0 O0 B0 hb1 P0 p12
    have q12 := O1.box 12 _ rfl
    have qf := O1.free
    have z1 := O1.lt (by simp)
    have K0 := Bx.setsO (nb := w.heap.size + 1 + 1) (by omega) [.slice (some ⟨mg, 0, none⟩) y.moves.length y.moves.length] 12 A1
    simp only [World.setCells, setL, List.set_cons_succ, List.set_cons_zero, Nat.reduceAdd] at K0
    have K0 := Lib.hid K0
    have K1 := Bx.setsO (nb := w.heap.size + 1 + 1) (by omega) [.slice (some ⟨mg, 0, none⟩) y.moves.length y.moves.length] 12 R1
    simp only [World.setCells, setL, List.set_cons_succ, List.set_cons_zero, Nat.reduceAdd] at K1
    have K1 := Lib.hid K1
    have K2 := Bx.sets (vs := [.slice (some ⟨mg, 0, none⟩) y.moves.length y.moves.length]) (o := 12) O1 (by simp)
    simp only [World.setCells, setL, List.set_cons_succ, List.set_cons_zero, Nat.reduceAdd] at K2
    have K2 := Lib.hid K2
    have K3 := below_sets (nb := w.heap.size + 1 + 1) (by omega) [.slice (some ⟨mg, 0, none⟩) y.moves.length y.moves.length] 12 B1
    simp only [World.setCells, setL, List.set_cons_succ, List.set_cons_zero, Nat.reduceAdd] at K3
    have K3 := Lib.hid K3
    have K4 := POwn.setsG (nb := w.heap.size + 1 + 1) (by omega) [.slice (some ⟨mg, 0, none⟩) y.moves.length y.moves.length] 12 P1
    simp only [World.setCells, setL, List.set_cons_succ, List.set_cons_zero, Nat.reduceAdd] at K4
    have K4 := Lib.hid K4
    have K5 := ownI_sets (nb := w.heap.size + 1 + 1) (by omega) [.slice (some ⟨mg, 0, none⟩) y.moves.length y.moves.length] 12 HO.out
    simp only [World.setCells, setL, List.set_cons_succ, List.set_cons_zero, Nat.reduceAdd] at K5
    have K5 := Lib.hid K5
    clear A1 R1 O1 B1 P1
    go_wp2_with fail
    go_meet
    case rel => exact ⟨mg, K0.out, K1.out, K2.out, K3.out, K4.out, K5.out⟩
  case rest =>
  clear A0 R0 O0 B0 zz P0 p12
  obtain ⟨mg, A0, R0, O0, B0, P0, M0⟩ := hcut
  have p13 := A0.box 13 _ rfl
  have p14 := A0.box 14 _ rfl
  have p15 := A0.box 15 _ rfl
  have zz : w.heap.size + 1 + 1 < wc.heap.size := O0.lt (by simp)
  go_upto_region 5 with fail
  go_cut [] from 4 to 23 (fun wx => ∃ np npc ns nsc, Bx w.heap.size (y.cells A).toList wx ∧ Bx (w.heap.size + 1) [.int .i64 0, .int .i64 0, .bool false, .bool false, .bool false, .bool false, .bool false, .int .i64 0, .int .i64 0, .slice none 0 0, .slice none 0 0, .int .i64 0, .slice none 0 0, .slice none 0 0, .slice none 0 0, .int .i64 0, .int .i64 0] wx ∧ Bx (w.heap.size + 1 + 1) [.int .i64 y.rules.pits, .int .i64 y.rules.seeds, .bool y.rules.stores, .bool y.rules.skip, .bool y.rules.relay, .bool y.rules.feed, .bool y.rules.again, .int .i64 y.rules.capture, .int .i64 y.rules.slam, .slice sp y.start.pits.length spc, .slice ss y.start.stores.length ssc, .int .i64 y.start.player, .slice (some ⟨mg, 0, none⟩) y.moves.length y.moves.length, .slice np y.now.pits.length npc, .slice ns y.now.stores.length nsc, .int .i64 y.now.player, .int .i64 0] wx ∧ Below w.heap.size w wx ∧ POwn wx (w.heap.size + 1 + 1 + 1) y.start sp spc ss ssc ∧ OwnI wx (w.heap.size + 1 + 1 + 1) (some ⟨mg, 0, none⟩) y.moves.length y.moves ∧ POwn wx (w.heap.size + 1 + 1 + 1) y.now np npc ns nsc)
  case first =>
    go_wp2_with fail
    refine (toPosition_c y.now A.n.pa A.n.sa A.n.pc A.n.sc _ (h3.below B0 (Nat.le_refl _)) m.np m.ns).mono ?_
    rintro e w1 ⟨np, npc, ns, nsc, rfl, ho, hb1⟩
    have HO := Lib.hid (ho.leG (show w.heap.size + 1 + 1 + 1 ≤ _ from zz))
    clear ho
    have A1 := A0.below hb1 (by omega)
    have R1 := R0.below hb1 (by omega)
    have O1 := O0.below hb1 (by omega)
    have B1 := B0.trans (hb1.mono (by omega))
    have P1 := P0.below hb1 (Nat.le_refl _)
    have M1 := own_below M0 hb1 (Nat.le_refl _)
    clear A0 R0 O0 B0 hb1 P0 M0 p13 p14 p15
    have q13 := O1.box 13 _ rfl
    have q14 := O1.box 14 _ rfl
    have q15 := O1.box 15 _ rfl
    have qf := O1.free
    have z1 := O1.lt (by simp)
    have K0 := Bx.setsO (nb := w.heap.size + 1 + 1) (by omega) [.slice np y.now.pits.length npc, .slice ns y.now.stores.length nsc, .int .i64 y.now.player] 13 A1
    simp only [World.setCells, setL, List.set_cons_succ, List.set_cons_zero, Nat.reduceAdd] at K0
    have K0 := Lib.hid K0
    have K1 := Bx.setsO (nb := w.heap.size + 1 + 1) (by omega) [.slice np y.now.pits.length npc, .slice ns y.now.stores.length nsc, .int .i64 y.now.player] 13 R1
    simp only [World.setCells, setL, List.set_cons_succ, List.set_cons_zero, Nat.reduceAdd] at K1
    have K1 := Lib.hid K1
    have K2 := Bx.sets (vs := [.slice np y.now.pits.length npc, .slice ns y.now.stores.length nsc, .int .i64 y.now.player]) (o := 13) O1 (by simp)
    simp only [World.setCells, setL, List.set_cons_succ, List.set_cons_zero, Nat.reduceAdd] at K2
    have K2 := Lib.hid K2
    have K3 := below_sets (nb := w.heap.size + 1 + 1) (by omega) [.slice np y.now.pits.length npc, .slice ns y.now.stores.length nsc, .int .i64 y.now.player] 13 B1
    simp only [World.setCells, setL, List.set_cons_succ, List.set_cons_zero, Nat.reduceAdd] at K3
    have K3 := Lib.hid K3
    have K4 := POwn.setsG (nb := w.heap.size + 1 + 1) (by omega) [.slice np y.now.pits.length npc, .slice ns y.now.stores.length nsc, .int .i64 y.now.player] 13 P1
    simp only [World.setCells, setL, List.set_cons_succ, List.set_cons_zero, Nat.reduceAdd] at K4
    have K4 := Lib.hid K4
    have K5 := ownI_sets (nb := w.heap.size + 1 + 1) (by omega) [.slice np y.now.pits.length npc, .slice ns y.now.stores.length nsc, .int .i64 y.now.player] 13 M1
    simp only [World.setCells, setL, List.set_cons_succ, List.set_cons_zero, Nat.reduceAdd] at K5
    have K5 := Lib.hid K5
    have K6 := POwn.setsG (nb := w.heap.size + 1 + 1) (by omega) [.slice np y.now.pits.length npc, .slice ns y.now.stores.length nsc, .int .i64 y.now.player] 13 HO.out
    simp only [World.setCells, setL, List.set_cons_succ, List.set_cons_zero, Nat.reduceAdd] at K6
    have K6 := Lib.hid K6
    clear A1 R1 O1 B1 P1 M1
    go_wp2_with fail
    go_meet
    case rel => exact ⟨np, npc, ns, nsc, K0.out, K1.out, K2.out, K3.out, K4.out, K5.out, K6.out⟩
  case rest =>
  clear A0 R0 O0 B0 zz P0 M0 p13 p14 p15
  obtain ⟨np, npc, ns, nsc, A0, R0, O0, B0, P0, M0, N0⟩ := hcut
  have p16 := A0.box 16 _ rfl
  have zz : w.heap.size + 1 + 1 < wc.heap.size := O0.lt (by simp)
  go_upto_region 6 with fail
  go_cut [] from 4 to 23 (fun wx => Bx w.heap.size (y.cells A).toList wx ∧ Bx (w.heap.size + 1) [.int .i64 0, .int .i64 0, .bool false, .bool false, .bool false, .bool false, .bool false, .int .i64 0, .int .i64 0, .slice none 0 0, .slice none 0 0, .int .i64 0, .slice none 0 0, .slice none 0 0, .slice none 0 0, .int .i64 0, .int .i64 0] wx ∧ Bx (w.heap.size + 1 + 1) [.int .i64 y.rules.pits, .int .i64 y.rules.seeds, .bool y.rules.stores, .bool y.rules.skip, .bool y.rules.relay, .bool y.rules.feed, .bool y.rules.again, .int .i64 y.rules.capture, .int .i64 y.rules.slam, .slice sp y.start.pits.length spc, .slice ss y.start.stores.length ssc, .int .i64 y.start.player, .slice (some ⟨mg, 0, none⟩) y.moves.length y.moves.length, .slice np y.now.pits.length npc, .slice ns y.now.stores.length nsc, .int .i64 y.now.player, .int .i64 y.res] wx ∧ Below w.heap.size w wx ∧ POwn wx (w.heap.size + 1 + 1 + 1) y.start sp spc ss ssc ∧ OwnI wx (w.heap.size + 1 + 1 + 1) (some ⟨mg, 0, none⟩) y.moves.length y.moves ∧ POwn wx (w.heap.size + 1 + 1 + 1) y.now np npc ns nsc)
  case first =>
    have A1 := A0
    have R1 := R0
    have O1 := O0
    have B1 := B0
    have P1 := P0
    have M1 := M0
    have N1 := N0
    clear A0 R0 O0 B0 P0 M0 N0
    have q16 := O1.box 16 _ rfl
    have qf := O1.free
    have z1 := O1.lt (by simp)
    have K0 := Bx.setsO (nb := w.heap.size + 1 + 1) (by omega) [.int .i64 y.res] 16 A1
    simp only [World.setCells, setL, List.set_cons_succ, List.set_cons_zero, Nat.reduceAdd] at K0
    have K0 := Lib.hid K0
    have K1 := Bx.setsO (nb := w.heap.size + 1 + 1) (by omega) [.int .i64 y.res] 16 R1
    simp only [World.setCells, setL, List.set_cons_succ, List.set_cons_zero, Nat.reduceAdd] at K1
    have K1 := Lib.hid K1
    have K2 := Bx.sets (vs := [.int .i64 y.res]) (o := 16) O1 (by simp)
    simp only [World.setCells, setL, List.set_cons_succ, List.set_cons_zero, Nat.reduceAdd] at K2
    have K2 := Lib.hid K2
    have K3 := below_sets (nb := w.heap.size + 1 + 1) (by omega) [.int .i64 y.res] 16 B1
    simp only [World.setCells, setL, List.set_cons_succ, List.set_cons_zero, Nat.reduceAdd] at K3
    have K3 := Lib.hid K3
    have K4 := POwn.setsG (nb := w.heap.size + 1 + 1) (by omega) [.int .i64 y.res] 16 P1
    simp only [World.setCells, setL, List.set_cons_succ, List.set_cons_zero, Nat.reduceAdd] at K4
    have K4 := Lib.hid K4
    have K5 := ownI_sets (nb := w.heap.size + 1 + 1) (by omega) [.int .i64 y.res] 16 M1
    simp only [World.setCells, setL, List.set_cons_succ, List.set_cons_zero, Nat.reduceAdd] at K5
    have K5 := Lib.hid K5
    have K6 := POwn.setsG (nb := w.heap.size + 1 + 1) (by omega) [.int .i64 y.res] 16 N1
    simp only [World.setCells, setL, List.set_cons_succ, List.set_cons_zero, Nat.reduceAdd] at K6
    have K6 := Lib.hid K6
    clear A1 R1 O1 B1 P1 M1 N1
    go_wp2_with fail
    go_meet
    case rel => exact ⟨K0.out, K1.out, K2.out, K3.out, K4.out, K5.out, K6.out⟩
  case rest =>
  clear A0 R0 O0 B0 zz P0 M0 N0 p16
  obtain ⟨A0, R0, O0, B0, P0, M0, N0⟩ := hcut
  have HP := Lib.hid P0
  have HM := Lib.hid M0
  have HN := Lib.hid N0
  have R1 := Lib.hid (Bx.sets_all (vs := [.int .i64 y.rules.pits, .int .i64 y.rules.seeds, .bool y.rules.stores, .bool y.rules.skip, .bool y.rules.relay, .bool y.rules.feed, .bool y.rules.again, .int .i64 y.rules.capture, .int .i64 y.rules.slam, .slice sp y.start.pits.length spc, .slice ss y.start.stores.length ssc, .int .i64 y.start.player, .slice (some ⟨mg, 0, none⟩) y.moves.length y.moves.length, .slice np y.now.pits.length npc, .slice ns y.now.stores.length nsc, .int .i64 y.now.player, .int .i64 y.res]) R0 rfl)
  have B1 := Lib.hid (below_sets (nb := w.heap.size + 1) (by omega) [.int .i64 y.rules.pits, .int .i64 y.rules.seeds, .bool y.rules.stores, .bool y.rules.skip, .bool y.rules.relay, .bool y.rules.feed, .bool y.rules.again, .int .i64 y.rules.capture, .int .i64 y.rules.slam, .slice sp y.start.pits.length spc, .slice ss y.start.stores.length ssc, .int .i64 y.start.player, .slice (some ⟨mg, 0, none⟩) y.moves.length y.moves.length, .slice np y.now.pits.length npc, .slice ns y.now.stores.length nsc, .int .i64 y.now.player, .int .i64 y.res] 0 B0)
  have P1 := Lib.hid (POwn.setsG (nb := w.heap.size + 1) (by omega) [.int .i64 y.rules.pits, .int .i64 y.rules.seeds, .bool y.rules.stores, .bool y.rules.skip, .bool y.rules.relay, .bool y.rules.feed, .bool y.rules.again, .int .i64 y.rules.capture, .int .i64 y.rules.slam, .slice sp y.start.pits.length spc, .slice ss y.start.stores.length ssc, .int .i64 y.start.player, .slice (some ⟨mg, 0, none⟩) y.moves.length y.moves.length, .slice np y.now.pits.length npc, .slice ns y.now.stores.length nsc, .int .i64 y.now.player, .int .i64 y.res] 0 HP.out)
  have M1 := Lib.hid (ownI_sets (nb := w.heap.size + 1) (by omega) [.int .i64 y.rules.pits, .int .i64 y.rules.seeds, .bool y.rules.stores, .bool y.rules.skip, .bool y.rules.relay, .bool y.rules.feed, .bool y.rules.again, .int .i64 y.rules.capture, .int .i64 y.rules.slam, .slice sp y.start.pits.length spc, .slice ss y.start.stores.length ssc, .int .i64 y.start.player, .slice (some ⟨mg, 0, none⟩) y.moves.length y.moves.length, .slice np y.now.pits.length npc, .slice ns y.now.stores.length nsc, .int .i64 y.now.player, .int .i64 y.res] 0 HM.out)
  have N1 := Lib.hid (POwn.setsG (nb := w.heap.size + 1) (by omega) [.int .i64 y.rules.pits, .int .i64 y.rules.seeds, .bool y.rules.stores, .bool y.rules.skip, .bool y.rules.relay, .bool y.rules.feed, .bool y.rules.again, .int .i64 y.rules.capture, .int .i64 y.rules.slam, .slice sp y.start.pits.length spc, .slice ss y.start.stores.length ssc, .int .i64 y.start.player, .slice (some ⟨mg, 0, none⟩) y.moves.length y.moves.length, .slice np y.now.pits.length npc, .slice ns y.now.stores.length nsc, .int .i64 y.now.player, .int .i64 y.res] 0 HN.out)
  have RG := Lib.hid (show wc.rangeAt (w.heap.size + 1 + 1) 0 [.int .i64 y.rules.pits, .int .i64 y.rules.seeds, .bool y.rules.stores, .bool y.rules.skip, .bool y.rules.relay, .bool y.rules.feed, .bool y.rules.again, .int .i64 y.rules.capture, .int .i64 y.rules.slam, .slice sp y.start.pits.length spc, .slice ss y.start.stores.length ssc, .int .i64 y.start.player, .slice (some ⟨mg, 0, none⟩) y.moves.length y.moves.length, .slice np y.now.pits.length npc, .slice ns y.now.stores.length nsc, .int .i64 y.now.player, .int .i64 y.res] from fun j v hv => by rw [Nat.zero_add]; exact O0.box j v hv)
  have TH := Lib.hid (show wc.there (w.heap.size + 1) 0 17 from R0.there)
  have zz : w.heap.size + 1 < wc.heap.size := R0.lt (by simp)
  clear R0 O0 A0 P0 M0 N0
  go_upto_region 7 with fail
  go_cut [] from 4 to 23 (fun wx => Bx (w.heap.size + 1) [.int .i64 y.rules.pits, .int .i64 y.rules.seeds, .bool y.rules.stores, .bool y.rules.skip, .bool y.rules.relay, .bool y.rules.feed, .bool y.rules.again, .int .i64 y.rules.capture, .int .i64 y.rules.slam, .slice sp y.start.pits.length spc, .slice ss y.start.stores.length ssc, .int .i64 y.start.player, .slice (some ⟨mg, 0, none⟩) y.moves.length y.moves.length, .slice np y.now.pits.length npc, .slice ns y.now.stores.length nsc, .int .i64 y.now.player, .int .i64 y.res] wx ∧ Below w.heap.size w wx ∧ POwn wx (w.heap.size + 1 + 1 + 1) y.start sp spc ss ssc ∧ OwnI wx (w.heap.size + 1 + 1 + 1) (some ⟨mg, 0, none⟩) y.moves.length y.moves ∧ POwn wx (w.heap.size + 1 + 1 + 1) y.now np npc ns nsc)
  case first =>
    go_step
    refine wpList_load_mid rfl 29 _ rfl _ _ rfl _ _ RG.out Try.underlying29 rfl (by kernel_rfl) ?_
    (try dsimp only)
    refine wpList_store_mid rfl 29 _ _ rfl _ _ #[.int .i64 y.rules.pits, .int .i64 y.rules.seeds, .bool y.rules.stores, .bool y.rules.skip, .bool y.rules.relay, .bool y.rules.feed, .bool y.rules.again, .int .i64 y.rules.capture, .int .i64 y.rules.slam, .slice sp y.start.pits.length spc, .slice ss y.start.stores.length ssc, .int .i64 y.start.player, .slice (some ⟨mg, 0, none⟩) y.moves.length y.moves.length, .slice np y.now.pits.length npc, .slice ns y.now.stores.length nsc, .int .i64 y.now.player, .int .i64 y.res] rfl rfl TH.out (by kernel_rfl) (by simp [Value.oneCell']) ?_
    go_wp2_with fail
    go_meet
    case rel => exact ⟨R1.out, B1.out, P1.out, M1.out, N1.out⟩
  case rest =>
  obtain ⟨R0, B0, P0, M0, N0⟩ := hcut
  go_wp2_with fail
  exact bodyPost_ret (v := y.val ⟨⟨sp, spc, ss, ssc⟩, some ⟨mg, 0, none⟩, y.moves.length, ⟨np, npc, ns, nsc⟩⟩) (results_bx Try.results29 _ rfl _ R0 Try.underlying29 rfl (by kernel_rfl)) rfl ⟨_, rfl, ⟨P0.leG (by omega), ownsRow_le M0 (by omega), N0.leG (by omega)⟩, B0⟩

/-! ### the law's argument -/
theorem list17 {α : Type} {cs : List α} (h : cs.length = 17) : ∃ a0 a1 a2 a3 a4 a5 a6 a7 a8 a9 a10 a11 a12 a13 a14 a15 a16, cs = [a0, a1, a2, a3, a4, a5, a6, a7, a8, a9, a10, a11, a12, a13, a14, a15, a16] := by
  match cs, h with
  | [a0, a1, a2, a3, a4, a5, a6, a7, a8, a9, a10, a11, a12, a13, a14, a15, a16], _ => exact ⟨a0, a1, a2, a3, a4, a5, a6, a7, a8, a9, a10, a11, a12, a13, a14, a15, a16, rfl⟩
theorem list5 {α : Type} {cs : List α} (h : cs.length = 5) : ∃ a0 a1 a2 a3 a4, cs = [a0, a1, a2, a3, a4] := by
  match cs, h with
  | [a0, a1, a2, a3, a4], _ => exact ⟨a0, a1, a2, a3, a4, rfl⟩
set_option maxRecDepth 100000 in
theorem arg_game {H : Type} {enc : TypeId × Value → H} {W : World} {base : Nat} {v : Value} {d : DataW H} {q : List MemPlace}
    (hval : Value.okWide Try.prog W .any base 44 v) (h : DataW.Trod enc Try.prog W 0 (fun _ => true) true 44 v d q) :
    ∃ (y : G) (A : GA), v = y.val A ∧ GRow W y A ∧ y.Len maxLen := by
  obtain ⟨cs, rfl⟩ := open_struct_val Try.underlying44 hval
  obtain ⟨fuel, hf⟩ := h
  obtain ⟨xs, n, _, _, hl, hxs, hf⟩ := DataW.trod_struct Try.underlying44 hf
  have hc : Try.prog.cellsOf 44 = 17 := by kernel_rfl
  have cr : Try.prog.cellsOf 23 = 9 := by kernel_rfl
  have cp : Try.prog.cellsOf 36 = 3 := by kernel_rfl
  have ci : Try.prog.cellsOf 2 = 1 := by kernel_rfl
  have cs1 : Try.prog.cellsOf 25 = 1 := by kernel_rfl
  rw [hc] at hl
  obtain ⟨a0, a1, a2, a3, a4, a5, a6, a7, a8, a9, a10, a11, a12, a13, a14, a15, a16, hcs⟩ := list17 hl
  have hcs' : cs.toList = [a0, a1, a2, a3, a4, a5, a6, a7, a8, a9, a10, a11, a12, a13, a14, a15, a16] := hcs
  obtain ⟨y0, y1, y2, y3, y4, rfl⟩ := list5 (cs := xs) (by simpa using hxs)
  have f0 := hf 0 _ rfl
  have f1 := hf 1 _ rfl
  have f2 := hf 2 _ rfl
  have f3 := hf 3 _ rfl
  have f4 := hf 4 _ rfl
  simp only [hcs] at f0 f1 f2 f3 f4
  simp [cr, cp, ci, cs1] at f0 f1 f2 f3 f4
  obtain ⟨r, er, _⟩ := open_rules f0
  obtain ⟨p, pa, pc, sa, sc, ep, hp, m1, m2, _⟩ := open_pos f1
  obtain ⟨ma, mc, ms, em, hm, m3, _⟩ := open_slice_ints f2
  obtain ⟨p', pa', pc', sa', sc', ep', hp', m1', m2', _⟩ := open_pos f3
  obtain ⟨k, ek, _⟩ := DataW.trod_int Try.underlying2 f4
  simp [R.cells] at er
  simp [P.cells] at ep ep'
  simp at em ek
  obtain ⟨rfl, rfl, rfl, rfl, rfl, rfl, rfl, rfl, rfl⟩ := er
  obtain ⟨rfl, rfl, rfl⟩ := ep
  obtain ⟨rfl, rfl, rfl⟩ := ep'
  subst em
  subst ek
  have hr' : cs = (G.mk r p ms p' k).cells ⟨⟨pa, pc, sa, sc⟩, ma, mc, ⟨pa', pc', sa', sc'⟩⟩ := Array.toList_inj.1 hcs'
  exact ⟨⟨r, p, ms, p', k⟩, ⟨⟨pa, pc, sa, sc⟩, ma, mc, ⟨pa', pc', sa', sc'⟩⟩, congrArg Value.agg hr', ⟨hp, hm, hp'⟩, ⟨m1, m2, m3, m1', m2'⟩⟩


end Go.Proofs.Yteabheocbkcmnaa
