/- Pos2: positions: the laws' own functions that compare, mark and look at them. Each contract holds for every argument, under the premises that it states. -/
import Derived.Test.YtbjgigdkbjabaaaCore1
namespace Go.Proofs.Ytbjgigdkbjabaaa
set_option linter.unusedSimpArgs false
set_option linter.unusedVariables false
set_option linter.unnecessarySimpa false
open Go.RowKit Go.ChangeShapes Go.WideShapes Go.ChangeAt Go.Joins

set_option maxHeartbeats 4000000 in
theorem eqPosition_c (x y : P) (pa sa qa ta : Option Addr) (pc sc qc tc : Nat) (w : World) (hx : PRow w x pa sa) (hy : PRow w y qa ta) (m1 : x.pits.length ≤ maxLen) (m2 : x.stores.length ≤ maxLen) (m3 : y.pits.length ≤ maxLen) (m4 : y.stores.length ≤ maxLen) :
    Calls Try.prog 17 #[x.val pa pc sa sc, y.val qa qc ta tc] w fun e w' => e = .returned (.bool (decide (x = y))) ∧ Below w.heap.size w w' := by
  obtain ⟨xp, xs, xl⟩ := x
  obtain ⟨yp, ys, yl⟩ := y
  obtain ⟨hx1, hx2⟩ := hx
  obtain ⟨hy1, hy2⟩ := hy
  go_enter Try.func17, Try.ntmps17
  go_wp2_with fail
  refine (eqInt64S_c pa qa pc qc xp yp _ (hx1.below (below_alloc2 _ _ _) (Nat.le_refl _)) (hy1.below (below_alloc2 _ _ _) (Nat.le_refl _)) m1 m3).mono ?_
  rintro e w1 ⟨rfl, m, hw1⟩
  have hW1 : Below w.heap.size w w1 := by rw [hw1]; exact (below_alloc2 _ _ _).trans (below_draws _ _ _)
  obtain ⟨hc1, hf1⟩ := bcell (show Below _ _ w1 from hw1 ▸ below_draws _ _ m)
  simp only [World.size_alloc] at hc1 hf1
  clear hw1
  by_cases hl : xp = yp
  · subst hl
    go_wp2_with fail
    refine (eqInt64S_c sa ta sc tc xs ys _ (hx2.below hW1 (Nat.le_refl _)) (hy2.below hW1 (Nat.le_refl _)) m2 m4).mono ?_
    rintro e w2 ⟨rfl, m', hw2⟩
    have hW2 : Below w.heap.size w w2 := by rw [hw2]; exact hW1.trans (below_draws _ _ _)
    have hc2 : ∀ b o, b < w.heap.size + 1 + 1 → w2.cell? ⟨b, o, none⟩ = ((w.alloc (.cells #[.slice pa xp.length pc, .slice sa xs.length sc, .int .i64 xl] 30)).alloc (.cells #[.slice qa xp.length qc, .slice ta ys.length tc, .int .i64 yl] 30)).cell? ⟨b, o, none⟩ := fun b o h => by
      rw [hw2]; simp; simpa using hc1 b o h
    clear hw2 hc1
    by_cases hs : xs = ys
    · subst hs
      go_wp2
      all_goals go_ret
      all_goals refine ⟨?_, hW2⟩
      all_goals first
        | (refine ret_bool (decide_eq_false (fun h => ?_)).symm; injection h; subst_vars; simp_all; done)
        | (refine ret_bool (decide_eq_true ?_).symm; simp_all; done)
    · have hd : decide (xs = ys) = false := decide_eq_false hs
      have HL := Lib.hid hs
      clear hs
      go_wp2
      go_ret
      exact ⟨ret_bool (decide_eq_false (fun h => HL.out (by injection h))).symm, hW2⟩
  · have hd : decide (xp = yp) = false := decide_eq_false hl
    have HL := Lib.hid hl
    clear hl
    go_wp2
    go_ret
    exact ⟨ret_bool (decide_eq_false (fun h => HL.out (by injection h))).symm, hW1⟩

/-- the cells of a row that is not empty -/
theorem Ints.open {w : World} {a : Option Addr} {xs : List Int} (h : Ints w a xs) (hn : 0 < xs.length) : ∃ b o, a = some ⟨b, o, none⟩ ∧ b < w.heap.size ∧ ∀ (j : Nat) (hj : j < xs.length), w.cell? ⟨b, o + j, none⟩ = some (.int .i64 xs[j]) := by
  obtain ⟨b, o, rfl, h0⟩ := h 0 (.int .i64 xs[0]) (by simp [hn])
  refine ⟨b, o, rfl, World.block_lt_of_cell? w _ h0, fun j hj => ?_⟩
  obtain ⟨b', o', e, h1⟩ := h j (.int .i64 xs[j]) (by simp [hj])
  cases e
  exact h1
/-- a position of the call's own, in the blocks from lo to hi -/
def PosP (lo hi : Nat) (p : P) (pa : Option Addr) (pc : Nat) (sa : Option Addr) (sc : Nat) : World → Prop := fun w =>
  POwn w lo p pa pc sa sc ∧ (∀ k, (Value.slice pa p.pits.length pc).ownBlock = some k → k < hi) ∧ (∀ k, (Value.slice sa p.stores.length sc).ownBlock = some k → k < hi)
theorem PosP.stab (lo hi : Nat) (p : P) (pa : Option Addr) (pc : Nat) (sa : Option Addr) (sc : Nat) : Stab lo hi (PosP lo hi p pa pc sa sc) :=
  fun w w' h hk => ⟨⟨own_stab (Nat.le_refl _) h.1.pits h.2.1 hk, own_stab (Nat.le_refl _) h.1.stores h.2.2 hk, h.1.apart⟩, h.2⟩
theorem Fr.pos {w0 w : World} {ls : List Res} (h : Fr w0 w ls) {lo : Nat} {p : P} {pa sa : Option Addr} {pc sc : Nat} (ho : POwn w lo p pa pc sa sc) : Fr w0 w (⟨lo, w.heap.size, PosP lo w.heap.size p pa pc sa sc⟩ :: ls) :=
  h.add _ _ _ (PosP.stab _ _ _ _ _ _ _) ⟨ho, fun k hk => (ho.pits.lt k hk).2, fun k hk => (ho.stores.lt k hk).2⟩ (Nat.le_refl _)
theorem szP_len {p : P} (hl : ¬ szP 1048576 p < 0) : p.pits.length ≤ 1048576 ∧ p.stores.length ≤ 1048576 := by
  unfold szP szI at hl
  by_cases h1 : (1048576 : Int) < p.pits.length
  · simp [h1] at hl
  · by_cases h2 : (1048576 : Int) - p.pits.length < p.stores.length
    · rw [if_neg h1] at hl
      rw [if_neg (by omega), if_pos h2] at hl
      omega
    · omega

/-! ### Pos3: positions: the law's own function that marks them. The contract holds for every argument, under the premises that it states. -/
theorem apart_symm {a b : Option Nat} (h : a = none ∨ a ≠ b) : b = none ∨ b ≠ a := by
  rcases h with e | e
  · cases b
    · exact .inl rfl
    · exact .inr (by rw [e]; simp)
  · exact .inr (fun h => e h.symm)
set_option maxHeartbeats 2000000 in
theorem markPosition_c (base hi : Nat) (p : P) (pa sa : Option Addr) (pc sc : Nat) (k : Int) (w : World) (h : POwn w base p pa pc sa sc) (h1 : ∀ b, (Value.slice pa p.pits.length pc).ownBlock = some b → b < hi) (h2 : ∀ b, (Value.slice sa p.stores.length sc).ownBlock = some b → b < hi)
    (hk : 0 ≤ k) (hk' : k + p.pits.length + p.stores.length ≤ 1099511627776) :
    Calls Try.prog 19 #[p.val pa pc sa sc, .int .i64 k] w fun e w' => e = .returned (.int .i64 (k + p.pits.length + p.stores.length)) ∧ Chg base hi w w' := by
  have F0 := (Fr.start w).alloc (p.cells pa pc sa sc) 30
  have hB := F0.at 0 rfl
  go_enter Try.func19, Try.ntmps19
  go_wp2_with fail
  refine (markInt64S_c base pa p.pits.length pc p.pits k _ (h.pits.alloc _) hk (by omega)).mono ?_
  rintro e w1 ⟨rfl, ho1, hg1⟩
  have hne : (Value.slice pa p.pits.length pc).ownBlock ≠ some w.heap.size := fun e => by have := (h.pits.lt _ e).2; omega
  have hB1 := BoxP.grown hB hg1 hne (by simp)
  obtain ⟨d0, d1, d2⟩ := P.boxc hB1
  have hst := (h.stores.alloc (.cells (p.cells pa pc sa sc) 30)).kept hg1 (apart_symm h.apart)
  have C1 : Chg base hi w w1 := (Chg.ofBelow (below_alloc1 w _)).trans (Chg.ofGrown hg1 (fun b hb => ⟨(h.pits.lt b hb).1, h1 b hb⟩))
  have HC1 := Lib.hid C1
  have zA : w.heap.size < w1.heap.size := by have := hg1.size; simp at this; omega
  clear ho1 hg1 hB hB1 F0 C1
  go_wp2_with fail
  refine (markInt64S_c base sa p.stores.length sc p.stores (k + p.pits.length) _ hst (by omega) (by omega)).mono ?_
  rintro e w2 ⟨rfl, ho2, hg2⟩
  have C2 := Lib.hid (HC1.out.trans (Chg.ofGrown hg2 (fun b hb => ⟨(h.stores.lt b hb).1, h2 b hb⟩)))
  clear ho2 hg2 hst d0 d1 d2
  go_wp2
  go_ret
  exact ⟨rfl, C2.out⟩


end Go.Proofs.Ytbjgigdkbjabaaa
