/- Sown: what is sown, as a value: the laws' own functions on it, and the contracts of both sides of SowMove. Each holds for every argument, under the premises that it states. -/
import Derived.Test.YtfnkfipeacjeaaaPath
import Derived.Test.YtfnkfipeacjeaaaPos3
namespace Go.Proofs.Ytfnkfipeacjeaaa
set_option linter.unusedSimpArgs false
set_option linter.unusedVariables false
set_option linter.unnecessarySimpa false
open Go.RowKit Go.ChangeShapes Go.WideShapes Go.ChangeAt Go.Joins

structure Sn where
  pits : List Int
  stores : List Int
  last : Int
  laps : Int
  deriving DecidableEq
structure A2 where
  pa : Option Addr
  pc : Nat
  sa : Option Addr
  sc : Nat
@[go_sem] def Sn.cells (y : Sn) (A : A2) : Array Value := #[.slice A.pa y.pits.length A.pc, .slice A.sa y.stores.length A.sc, .int .i64 y.last, .int .i64 y.laps]
@[go_sem] def Sn.val (y : Sn) (A : A2) : Value := .agg (y.cells A)
def Sn.zero : Sn := ⟨[], [], 0, 0⟩
@[reducible] def Sn.pos (y : Sn) : P := ⟨y.pits, y.stores, 0⟩
def A2.none : A2 := ⟨Option.none, 0, Option.none, 0⟩
/-- what is sown, and a code -/
def SnRes (w : World) (y : Sn × Int) (e : Ending) (w' : World) : Prop := ∃ A, e = .returned (.tuple #[y.1.val A, .int .i64 y.2]) ∧ POwn w' w.heap.size y.1.pos A.pa A.pc A.sa A.sc ∧ Below w.heap.size w w'
theorem POwn.nil (w : World) (base : Nat) : POwn w base Sn.zero.pos A2.none.pa A2.none.pc A2.none.sa A2.none.sc := ⟨World.ownsRow_nil _ _ _ _, World.ownsRow_nil _ _ _ _, .inl rfl⟩

theorem SowM.below {w w' : World} {r : R} {pn : Nat} {c : Int} {o : Option (Lap × Int)} {e : Ending} (h : SowM w r pn c o e w') : Below w.heap.size w w' := by
  rcases h with ⟨_, _, _, _, hb⟩ | ⟨_, _, _, _, _, _, _, _, _, _, _, _, _, _, _, _, _, hb⟩ <;> exact hb
theorem SowK.below {w w' : World} {c : Int} {o : Option (Lap × Int)} {e : Ending} (h : SowK w c o e w') : Below w.heap.size w w' := by
  rcases h with ⟨_, _, _, _, hb⟩ | ⟨_, _, _, _, _, _, _, _, _, _, _, _, _, hb⟩ <;> exact hb
set_option maxHeartbeats 4000000 in
theorem eqSown_c (x y : Sn) (A B : A2) (w : World) (hx : PRow w x.pos A.pa A.sa) (hy : PRow w y.pos B.pa B.sa) (m1 : x.pits.length ≤ maxLen) (m2 : x.stores.length ≤ maxLen) (m3 : y.pits.length ≤ maxLen) (m4 : y.stores.length ≤ maxLen) :
    Calls Try.prog 26 #[x.val A, y.val B] w fun e w' => e = .returned (.bool (decide (x = y))) ∧ Below w.heap.size w w' := by
  obtain ⟨xp, xs, xl, xm⟩ := x
  obtain ⟨yp, ys, yl, ym⟩ := y
  obtain ⟨pa, pc, sa, sc⟩ := A
  obtain ⟨qa, qc, ta, tc⟩ := B
  obtain ⟨hx1, hx2⟩ := hx
  obtain ⟨hy1, hy2⟩ := hy
  go_enter Try.func26, Try.ntmps26
  go_wp2_with fail
  refine (eqInt64S_c pa qa pc qc xp yp _ (hx1.below (below_alloc2 _ _ _) (Nat.le_refl _)) (hy1.below (below_alloc2 _ _ _) (Nat.le_refl _)) m1 m3).mono ?_
  rintro e w1 ⟨rfl, m, hw1⟩
  have hW1 : Below w.heap.size w w1 := by rw [hw1]; exact (below_alloc2 _ _ _).trans (below_draws _ _ _)
  obtain ⟨hc1, hf1⟩ := bcell (show Below _ _ w1 from hw1 ▸ below_draws _ _ m)
  simp only [World.size_alloc] at hc1 hf1
  clear hw1
  by_cases hl : xp = yp
  · subst hl
    go_wp2_with fail
    refine (eqInt64S_c sa ta sc tc xs ys _ (hx2.below hW1 (Nat.le_refl _)) (hy2.below hW1 (Nat.le_refl _)) m2 m4).mono ?_
    rintro e w2 ⟨rfl, m', hw2⟩
    have hW2 : Below w.heap.size w w2 := by rw [hw2]; exact hW1.trans (below_draws _ _ _)
    have hc2 : ∀ b o, b < w.heap.size + 1 + 1 → w2.cell? ⟨b, o, none⟩ = ((w.alloc (.cells #[.slice pa xp.length pc, .slice sa xs.length sc, .int .i64 xl, .int .i64 xm] 39)).alloc (.cells #[.slice qa xp.length qc, .slice ta ys.length tc, .int .i64 yl, .int .i64 ym] 39)).cell? ⟨b, o, none⟩ := fun b o h => by
      rw [hw2]; simp; simpa using hc1 b o h
    clear hw2 hc1
    by_cases hs : xs = ys
    · subst hs
      go_wp2
      all_goals go_ret
      all_goals refine ⟨?_, hW2⟩
      all_goals first
        | (refine ret_bool (decide_eq_false (fun h => ?_)).symm; injection h; subst_vars; simp_all; done)
        | (refine ret_bool (decide_eq_true ?_).symm; simp_all; done)
    · have hd : decide (xs = ys) = false := decide_eq_false hs
      have HL := Lib.hid hs
      clear hs
      go_wp2
      go_ret
      exact ⟨ret_bool (decide_eq_false (fun h => HL.out (by injection h))).symm, hW2⟩
  · have hd : decide (xp = yp) = false := decide_eq_false hl
    have HL := Lib.hid hl
    clear hl
    go_wp2
    go_ret
    exact ⟨ret_bool (decide_eq_false (fun h => HL.out (by injection h))).symm, hW1⟩

/-- two rows that are marked -/
structure Mark2 (w : World) (base : Nat) (n m : Nat) (A : A2) (k : Int) : Prop where
  pits : w.ownsRow base 2 1 (.slice A.pa n A.pc) n ((marks k n).map (Value.int .i64))
  stores : w.ownsRow base 2 1 (.slice A.sa m A.sc) m ((marks (k + n) m).map (Value.int .i64))
set_option maxHeartbeats 2000000 in
theorem markSown_c (base hi : Nat) (y : Sn) (A : A2) (k : Int) (w : World) (h : POwn w base y.pos A.pa A.pc A.sa A.sc) (h1 : ∀ b, (Value.slice A.pa y.pits.length A.pc).ownBlock = some b → b < hi) (h2 : ∀ b, (Value.slice A.sa y.stores.length A.sc).ownBlock = some b → b < hi)
    (hk : 0 ≤ k) (hk' : k + y.pits.length + y.stores.length ≤ 1099511627776) :
    Calls Try.prog 29 #[y.val A, .int .i64 k] w fun e w' => e = .returned (.int .i64 (k + y.pits.length + y.stores.length)) ∧ Mark2 w' base y.pits.length y.stores.length A k ∧ Chg base hi w w' := by
  have F0 := (Fr.start w).alloc (y.cells A) 39
  have hB := F0.at 0 rfl
  go_enter Try.func29, Try.ntmps29
  go_wp2_with fail
  refine (markInt64S_c base A.pa y.pits.length A.pc y.pits k _ (h.pits.alloc _) hk (by omega)).mono ?_
  rintro e w1 ⟨rfl, ho1, hg1⟩
  have hne : (Value.slice A.pa y.pits.length A.pc).ownBlock ≠ some w.heap.size := fun e => by have := (h.pits.lt _ e).2; omega
  have hB1 := BoxP.grown hB hg1 hne (by simp)
  have d1 : w1.cell? ⟨w.heap.size, 1, none⟩ = some (.slice A.sa y.stores.length A.sc) := hB1 1 _ rfl
  have hst := (h.stores.alloc (.cells (y.cells A) 39)).kept hg1 (apart_symm h.apart)
  have C1 : Chg base hi w w1 := (Chg.ofBelow (below_alloc1 w _)).trans (Chg.ofGrown hg1 (fun b hb => ⟨(h.pits.lt b hb).1, h1 b hb⟩))
  have HC1 := Lib.hid C1
  have HO1 := Lib.hid ho1
  have zA : w.heap.size < w1.heap.size := by have := hg1.size; simp at this; omega
  clear ho1 hg1 hB hB1 F0 C1
  go_wp2_with fail
  refine (markInt64S_c base A.sa y.stores.length A.sc y.stores (k + y.pits.length) _ hst (by omega) (by omega)).mono ?_
  rintro e w2 ⟨rfl, ho2, hg2⟩
  have C2 := Lib.hid (HC1.out.trans (Chg.ofGrown hg2 (fun b hb => ⟨(h.stores.lt b hb).1, h2 b hb⟩)))
  have HO2 := Lib.hid ho2
  have HO3 := Lib.hid (HO1.out.kept hg2 h.apart)
  clear ho2 hg2 hst d1
  go_wp2
  go_ret
  exact ⟨rfl, ⟨HO3.out, HO2.out⟩, C2.out⟩

set_option maxHeartbeats 2000000 in
theorem heldSown_c (y : Sn) (A : A2) (k : Int) (w : World) (hp : Ints w A.pa (marks k y.pits.length)) (hs : Ints w A.sa (marks (k + y.pits.length) y.stores.length)) (hk : 0 ≤ k) (hk' : k + y.pits.length + y.stores.length ≤ 1099511627776) :
    Calls Try.prog 30 #[y.val A, .int .i64 k] w fun e w' => e = .returned (.int .i64 (k + y.pits.length + y.stores.length)) ∧ Below w.heap.size w w' := by
  go_enter Try.func30, Try.ntmps30
  go_wp2_with fail
  refine (heldInt64S_c A.pa y.pits.length A.pc k _ (hp.below (below_alloc1 _ _) (Nat.le_refl _)) hk (by omega)).mono ?_
  rintro e w1 ⟨rfl, rfl⟩
  go_wp2_with fail
  refine (heldInt64S_c A.sa y.stores.length A.sc (k + y.pits.length) _ (hs.below (below_alloc1 _ _) (Nat.le_refl _)) (by omega) (by omega)).mono ?_
  rintro e w1 ⟨rfl, rfl⟩
  go_wp2
  go_ret
  exact ⟨rfl, below_alloc1 _ _⟩

def moveP (r : R) (p : P) (move : Int) : Sn × Int :=
  if codeP r p move = 0 then (match sowP r p.player (p.player * r.pits + move) p.pits p.stores with | none => (Sn.zero, 10) | some (L, n) => (⟨L.pits, L.stores, L.last, n⟩, 0)) else (Sn.zero, codeP r p move)
theorem moveP_bad {r : R} {p : P} {move c : Int} (hc : ¬ c = 0) (h : c = codeP r p move ∨ codeP r p move = 0 ∧ sowP r p.player (p.player * r.pits + move) p.pits p.stores = none ∧ c = 10) : moveP r p move = (Sn.zero, c) := by
  unfold moveP
  rcases h with rfl | ⟨h1, h2, rfl⟩
  · rw [if_neg hc]
  · rw [if_pos h1, h2]
theorem moveP_ok {r : R} {p : P} {move n : Int} {L : Lap} (h1 : codeP r p move = 0) (h2 : sowP r p.player (p.player * r.pits + move) p.pits p.stores = some (L, n)) : moveP r p move = (⟨L.pits, L.stores, L.last, n⟩, 0) := by
  unfold moveP
  rw [if_pos h1, h2]
theorem moveP_len (r : R) (p : P) (move : Int) : (moveP r p move).1.pits.length ≤ 16 ∧ (moveP r p move).1.stores.length ≤ 2 := by
  unfold moveP
  split
  · rename_i hc
    cases hs : sowP r p.player (p.player * r.pits + move) p.pits p.stores with
    | none => simp [Sn.zero]
    | some x =>
      obtain ⟨L, n⟩ := x
      obtain ⟨hok, mv, hnz⟩ := codeP_zero hc
      obtain ⟨hbd, ⟨pn, hpn, hpn1⟩, t, hB, ht0, ht1⟩ := P.ok_parts hok
      obtain ⟨fn, hfn, hfl⟩ := from_ok hok mv
      rw [hfn] at hs
      obtain ⟨k1, k2, k3⟩ := lapP_brd hbd p.player fn (by omega) p.pits p.stores [] t hB hfl
      obtain ⟨j1, j2, j3, j4, j5⟩ := sowGo_brd hbd p.player (by omega) 99 _ L n k1 k3 hs
      have := j1.lp
      have := j1.ls
      have := hbd.hi
      simp
      omega
  · simp [Sn.zero]

set_option maxRecDepth 100000 in
set_option maxHeartbeats 4000000 in
theorem iSowMove_c (r : R) (p : P) (move : Int) (pa sa : Option Addr) (pc sc : Nat) (w : World) (h : PRow w p pa sa) (m1 : p.pits.length ≤ 16777216) (m2 : p.stores.length ≤ 16777216) :
    Calls Try.prog 37 #[r.val, p.val pa pc sa sc, .int .i64 move] w (SnRes w (moveP r p move)) := by
  have F0 := (((Fr.start w).alloc r.cells 26).alloc (p.cells pa pc sa sc) 42).alloc #[.slice none 0 0, .slice none 0 0, .int .i64 0, .int .i64 0] 39
  have g0 : ∀ o, (((w.alloc (.cells r.cells 26)).alloc (.cells (p.cells pa pc sa sc) 42)).alloc (.cells #[.slice none 0 0, .slice none 0 0, .int .i64 0, .int .i64 0] 39)).frozen? ⟨w.heap.size + 1 + 1, o, none⟩ = false := by intro o; simp [go_sem]
  go_enter Try.func37, Try.ntmps37
  go_wp2_with fail
  refine (sowMove_c r p move pa sa pc sc _ (h.below F0.below (Nat.le_refl _)) m1 m2).mono ?_
  rintro e w1 hsm
  have hb1 := SowM.below hsm
  have F1 := F0.step hb1
  have hfz : ∀ o, w1.frozen? ⟨w.heap.size + 1 + 1, o, none⟩ = false := fun o => ((bcell hb1).2 _ o (by simp)).trans (g0 o)
  obtain ⟨x0, x1, x2, x3⟩ := (⟨F1.at 0 rfl 0 _ rfl, F1.at 0 rfl 1 _ rfl, F1.at 0 rfl 2 _ rfl, F1.at 0 rfl 3 _ rfl⟩ : _ ∧ _ ∧ _ ∧ _)
  simp only [World.size_alloc] at x0 x1 x2 x3
  have zC : w.heap.size + 1 + 1 < w1.heap.size := by have := F1.le 0 rfl; simp at this; omega
  have B1 := F1.below
  clear F0 F1 g0 hb1
  rcases hsm with ⟨c, hc, hor, rfl, _⟩ | ⟨L, n, sb, pg, qc, sg, tc, ta, tac, hc, ho, rfl, hs, hf, hw, ho', ha, _⟩
  · have HE := Lib.hid (moveP_bad hc hor)
    have hc1 : (c != 0) = true := by simpa using hc
    clear hor hc
    go_wp2_with fail
    refine bodyPost_ret (v := .tuple #[Sn.zero.val A2.none, .int .i64 c]) (by simp [results, Try.results37, go_sem, x0, x1, x2, x3, hfz, Sn.zero, A2.none]) rfl ?_
    rw [HE.out]
    refine ⟨A2.none, rfl, POwn.nil _ _, ?_⟩
    repeat (first | (with_reducible exact B1) | ((with_reducible refine Below.setCell ?_ ?_ _); rotate_left; (simp <;> omega)))
  · have HE := Lib.hid (moveP_ok hc ho)
    obtain ⟨k0, k1, k2, k3⟩ := (⟨hs.c0, hs.c1, hf.c2, hf.c3⟩ : _ ∧ _ ∧ _ ∧ _)
    simp only [Nat.reduceAdd] at k0 k1 k2 k3
    have n1 : ¬ sb = w.heap.size + 1 + 1 := by have := hs.nb0; simp at this; omega
    have n2 : ¬ w.heap.size + 1 + 1 = sb := fun e => n1 e.symm
    have HS := Lib.hid hs
    clear hs hf hw ho' ha hc ho
    go_wp2_with fail
    refine bodyPost_ret (v := .tuple #[(⟨L.pits, L.stores, L.last, n⟩ : Sn).val ⟨some ⟨pg, 0, none⟩, qc, some ⟨sg, 0, none⟩, tc⟩, .int .i64 0]) (by simp [results, Try.results37, go_sem, x0, x1, x2, x3, hfz]) rfl ?_
    rw [HE.out]
    refine ⟨⟨some ⟨pg, 0, none⟩, qc, some ⟨sg, 0, none⟩, tc⟩, rfl, ⟨?_, ?_, .inr (by simp [Value.ownBlock]; exact HS.out.n1)⟩, ?_⟩
    · have k0 := HS.out.op
      simp only [World.size_alloc] at k0
      refine ownsRow_le (base := w.heap.size + 1 + 1 + 1) ?_ (by omega)
      repeat (first | (with_reducible exact k0) | ((with_reducible refine ownsRow_setCell_below ?_ ?_ _); rotate_left; (simp <;> omega)))
    · have k0 := HS.out.os
      simp only [World.size_alloc] at k0
      refine ownsRow_le (base := w.heap.size + 1 + 1 + 1) ?_ (by omega)
      repeat (first | (with_reducible exact k0) | ((with_reducible refine ownsRow_setCell_below ?_ ?_ _); rotate_left; (simp <;> omega)))
    · repeat (first | (with_reducible exact B1) | ((with_reducible refine Below.setCell ?_ ?_ _); rotate_left; (simp <;> omega)))

set_option maxRecDepth 100000 in
set_option maxHeartbeats 4000000 in
theorem sSowMove_c (r : R) (p : P) (move : Int) (pa sa : Option Addr) (pc sc : Nat) (w : World) (h : PRow w p pa sa) (m1 : p.pits.length ≤ 16777216) (m2 : p.stores.length ≤ 16777216) :
    Calls Try.prog 36 #[r.val, p.val pa pc sa sc, .int .i64 move] w (SnRes w (moveP r p move)) := by
  have F0 := (((Fr.start w).alloc r.cells 26).alloc (p.cells pa pc sa sc) 42).alloc #[.slice none 0 0, .slice none 0 0, .int .i64 0, .int .i64 0] 39
  have g0 : ∀ o, (((w.alloc (.cells r.cells 26)).alloc (.cells (p.cells pa pc sa sc) 42)).alloc (.cells #[.slice none 0 0, .slice none 0 0, .int .i64 0, .int .i64 0] 39)).frozen? ⟨w.heap.size + 1 + 1, o, none⟩ = false := by intro o; simp [go_sem]
  have hr := R.boxc (F0.at 2 rfl)
  have hp : P.At _ (w.alloc (.cells r.cells 26)).heap.size 0 p pa pc sa sc := ⟨F0.at 1 rfl 0 _ rfl, F0.at 1 rfl 1 _ rfl, F0.at 1 rfl 2 _ rfl⟩
  simp only [World.size_alloc] at hp
  have HM := Lib.hid (l05Move_c _ _ _ _ r p move pa sa pc sc _ hr hp (h.below F0.below (Nat.le_refl _)) m1 m2)
  clear hr hp
  go_enter Try.func36, Try.ntmps36
  go_wp2_with fail
  refine HM.out.mono ?_
  rintro e w1 hsm
  have hb1 := SowK.below hsm
  have F1 := F0.step hb1
  have hfz : ∀ o, w1.frozen? ⟨w.heap.size + 1 + 1, o, none⟩ = false := fun o => ((bcell hb1).2 _ o (by simp)).trans (g0 o)
  obtain ⟨x0, x1, x2, x3⟩ := (⟨F1.at 0 rfl 0 _ rfl, F1.at 0 rfl 1 _ rfl, F1.at 0 rfl 2 _ rfl, F1.at 0 rfl 3 _ rfl⟩ : _ ∧ _ ∧ _ ∧ _)
  simp only [World.size_alloc] at x0 x1 x2 x3
  have zC : w.heap.size + 1 + 1 < w1.heap.size := by have := F1.le 0 rfl; simp at this; omega
  have B1 := F1.below
  clear F0 F1 g0 hb1
  rcases hsm with ⟨c, hc, hor, rfl, _⟩ | ⟨L, n, qa, qc, ta, tc, xa, xc, hc, ho, rfl, hpo, hx, _⟩
  · have HE := Lib.hid (moveP_bad hc hor)
    clear hor hc
    go_wp2_with fail
    refine bodyPost_ret (v := .tuple #[Sn.zero.val A2.none, .int .i64 c]) (by simp [results, Try.results36, go_sem, x0, x1, x2, x3, hfz, zC, Sn.zero, A2.none]) rfl ?_
    rw [HE.out]
    refine ⟨A2.none, rfl, POwn.nil _ _, ?_⟩
    repeat (first | (with_reducible exact B1) | ((with_reducible refine Below.setCell ?_ ?_ _); rotate_left; (simp <;> omega)) | ((with_reducible refine Below.alloc ?_ ?_ _); rotate_left; (simp <;> omega)))
  · have HE := Lib.hid (moveP_ok hc ho)
    have HS := Lib.hid hpo
    clear hpo hx hc ho
    go_wp2_with fail
    refine bodyPost_ret (v := .tuple #[(⟨L.pits, L.stores, L.last, n⟩ : Sn).val ⟨qa, qc, ta, tc⟩, .int .i64 0]) (by simp [results, Try.results36, go_sem, x0, x1, x2, x3, hfz, zC]) rfl ?_
    rw [HE.out]
    refine ⟨⟨qa, qc, ta, tc⟩, rfl, ⟨?_, ?_, HS.out.apart⟩, ?_⟩
    · have k0 := HS.out.pits
      simp only [World.size_alloc] at k0
      refine ownsRow_le (base := w.heap.size + 1 + 1 + 1) ?_ (by omega)
      repeat (first | (with_reducible exact k0) | (with_reducible refine World.ownsRow.alloc ?_ _) | ((with_reducible refine ownsRow_setCell_below ?_ ?_ _); rotate_left; (simp <;> omega)))
    · have k0 := HS.out.stores
      simp only [World.size_alloc] at k0
      refine ownsRow_le (base := w.heap.size + 1 + 1 + 1) ?_ (by omega)
      repeat (first | (with_reducible exact k0) | (with_reducible refine World.ownsRow.alloc ?_ _) | ((with_reducible refine ownsRow_setCell_below ?_ ?_ _); rotate_left; (simp <;> omega)))
    · repeat (first | (with_reducible exact B1) | ((with_reducible refine Below.setCell ?_ ?_ _); rotate_left; (simp <;> omega)) | ((with_reducible refine Below.alloc ?_ ?_ _); rotate_left; (simp <;> omega)))

end Go.Proofs.Ytfnkfipeacjeaaa
