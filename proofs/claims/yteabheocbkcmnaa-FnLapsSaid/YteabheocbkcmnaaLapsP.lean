/- LapsP: the period of a lap, in plain terms. Each fact holds under the premises that it states. -/
import Derived.Test.YteabheocbkcmnaaLast
namespace Go.Proofs.Yteabheocbkcmnaa
set_option linter.unusedSimpArgs false
set_option linter.unusedVariables false
set_option linter.unnecessarySimpa false
open Go.RowKit Go.ChangeShapes Go.WideShapes Go.ChangeAt Go.Joins

/-- how many seeds go once around -/
def lapLen (r : R) : Int := 2 * r.pits + (if r.stores = true then 1 else 0) - (if r.skip = true then 1 else 0)
def iter (f : Int → Int) : Nat → Int → Int
  | 0, x => x
  | n + 1, x => iter f n (f x)
theorem iter_add (f : Int → Int) : ∀ (a b : Nat) (x : Int), iter f (a + b) x = iter f b (iter f a x)
  | 0, b, x => by simp [iter]
  | a + 1, b, x => by rw [show a + 1 + b = (a + b) + 1 by omega]; exact iter_add f a b (f x)
theorem lapGo_last (r : R) (pl fr : Int) : ∀ (n : Nat) (place : Int) (P S T : List Int), (lapGo r pl fr n place P S T).last = iter (stepP r pl fr) n place
  | 0, place, P, S, T => rfl
  | n + 1, place, P, S, T => by
    simp only [lapGo, iter]
    split
    · exact lapGo_last r pl fr n _ _ _ _
    · exact lapGo_last r pl fr n _ _ _ _
/-- the rules that a lap asks for -/
def rOf (p : Int) (st sk : Bool) : R := ⟨p, 0, st, sk, false, false, false, 0, 0⟩
theorem step_rOf (r : R) (pl fr : Int) : stepP r pl fr = stepP (rOf r.pits r.stores r.skip) pl fr := by
  rfl
set_option maxRecDepth 100000 in
theorem period : ([2, 3, 4, 5, 6].all fun (p : Int) => [false, true].all fun st => [false, true].all fun sk => [0, 1].all fun (pl : Int) => (List.range 6).all fun (m : Nat) =>
    decide (p ≤ m) || (decide (iter (stepP (rOf p st sk) pl (pl * p + m)) (lapLen (rOf p st sk)).toNat (iter (stepP (rOf p st sk) pl (pl * p + m)) 1 (pl * p + m)) = iter (stepP (rOf p st sk) pl (pl * p + m)) 1 (pl * p + m)) &&
      (sk || decide (iter (stepP (rOf p st sk) pl (pl * p + m)) (lapLen (rOf p st sk)).toNat (pl * p + m) = pl * p + m)))) = true := by decide +kernel
theorem period_of (r : R) (hlo : 2 ≤ r.pits) (hhi : r.pits ≤ 6) (pl m : Int) (h0 : 0 ≤ pl) (h1 : pl ≤ 1) (m0 : 0 ≤ m) (m1 : m < r.pits) :
    iter (stepP r pl (pl * r.pits + m)) (1 + (lapLen r).toNat) (pl * r.pits + m) = iter (stepP r pl (pl * r.pits + m)) 1 (pl * r.pits + m) ∧ (r.skip = false → iter (stepP r pl (pl * r.pits + m)) (lapLen r).toNat (pl * r.pits + m) = pl * r.pits + m) := by
  obtain ⟨k, rfl⟩ : ∃ k : Nat, m = k := ⟨m.toNat, by omega⟩
  have h := period
  simp only [List.all_eq_true] at h
  have h2 := h r.pits (by simp; omega) r.stores (by cases r.stores <;> simp) r.skip (by cases r.skip <;> simp) pl (by simp; omega) k (by simp; omega)
  have e : decide (r.pits ≤ (k : Int)) = false := by simp; omega
  rw [e] at h2
  simp only [Bool.false_or, Bool.and_eq_true, Bool.or_eq_true, decide_eq_true_eq] at h2
  have hl : lapLen (rOf r.pits r.stores r.skip) = lapLen r := rfl
  rw [hl, ← step_rOf r pl] at h2
  refine ⟨by rw [iter_add]; exact h2.1, fun hs => ?_⟩
  rcases h2.2 with h3 | h3
  · rw [hs] at h3; cases h3
  · exact h3
theorem lastP_ok (r : R) (hok : r.ok = true) (pl m s : Int) (h0 : 0 ≤ pl) (h1 : pl ≤ 1) (m0 : 0 ≤ m) (m1 : m < r.pits) (s0 : 1 ≤ s) (s1 : s ≤ 96) :
    lastP r pl m s = (iter (stepP r pl (pl * r.pits + m)) s.toNat (pl * r.pits + m), 0) := by
  obtain ⟨⟨hlo, hhi⟩, _⟩ := R.ok_iff.1 hok
  unfold lastP
  rw [if_neg (by rw [hok]; simp), if_neg (by rw [inB_iff.2 ⟨h0, h1⟩, inB_iff.2 ⟨m0, by omega⟩, inB_iff.2 ⟨s0, s1⟩]; simp)]
  have hx : 0 ≤ pl * r.pits ∧ pl * r.pits ≤ r.pits := by
    have : pl = 0 ∨ pl = 1 := by omega
    rcases this with rfl | rfl <;> omega
  have e : (oneP r pl (pl * r.pits + m) s).pits.getD (pl * r.pits + m).toNat 0 = s := by
    unfold oneP
    rw [List.getD_eq_getElem?_getD, List.getElem?_set_self (by simp; omega)]
    rfl
  unfold lapP
  rw [lapGo_last, e]
/-- the law's answer -/
theorem laps_hold (r : R) (hok : r.ok = true) (h6 : r.pits ≤ 6) (pl m s : Int) (h0 : 0 ≤ pl) (h1 : pl ≤ 1) (m0 : 0 ≤ m) (m1 : m < r.pits) (s0 : 1 ≤ s) (s1 : s ≤ 60) :
    ∃ a c d : Int, lastP r pl m s = (a, 0) ∧ lastP r pl m (s + lapLen r) = (a, 0) ∧ lastP r pl m (lapLen r) = (c, 0) ∧ lastP r pl m 1 = (d, 0) ∧ (r.skip = false → c = pl * r.pits + m ∧ d ≠ c) ∧ 3 ≤ lapLen r ∧ lapLen r ≤ 17 := by
  obtain ⟨⟨hlo, hhi⟩, _⟩ := R.ok_iff.1 hok
  have hl : 3 ≤ lapLen r ∧ lapLen r ≤ 17 := by unfold lapLen; split <;> split <;> omega
  obtain ⟨p1, p2⟩ := period_of r hlo h6 pl m h0 h1 m0 m1
  have hb := R.ok_bd hok
  have hx : 0 ≤ pl * r.pits ∧ pl * r.pits ≤ r.pits := by
    have : pl = 0 ∨ pl = 1 := by omega
    rcases this with rfl | rfl <;> omega
  refine ⟨_, _, _, lastP_ok r hok pl m s h0 h1 m0 m1 s0 (by omega), ?_, lastP_ok r hok pl m (lapLen r) h0 h1 m0 m1 (by omega) (by omega), lastP_ok r hok pl m 1 h0 h1 m0 m1 (by omega) (by omega), fun hs => ⟨p2 hs, ?_⟩, hl⟩
  · rw [lastP_ok r hok pl m (s + lapLen r) h0 h1 m0 m1 (by omega) (by omega)]
    have e1 : (s + lapLen r).toNat = (1 + (lapLen r).toNat) + (s.toNat - 1) := by omega
    have e2 : s.toNat = 1 + (s.toNat - 1) := by omega
    rw [e1, iter_add, p1]
    conv => rhs; rw [e2, iter_add]
  · rw [p2 hs]
    show stepP r pl (pl * r.pits + m) (pl * r.pits + m) ≠ _
    unfold stepP
    rw [hs]
    simp only [Bool.false_eq_true, false_and, if_false]
    exact nextP_ne hb pl _ ⟨h0, h1⟩ (.inr ⟨by omega, by omega⟩)

set_option maxHeartbeats 2000000 in
theorem LapLength_c (r : R) (hok : r.ok = true) (w : World) :
    Calls Try.prog 56 #[r.val] w fun e w' => e = .returned (.tuple #[.int .i64 (lapLen r), .int .i64 0]) ∧ Below w.heap.size w w' := by
  have F0 := (Fr.start w).alloc r.cells 24
  obtain ⟨⟨hlo, hhi⟩, _⟩ := R.ok_iff.1 hok
  have HL : Hid (lapLen r = 2 * r.pits + (if r.stores = true then 1 else 0) - (if r.skip = true then 1 else 0)) := rfl
  go_enter Try.func56, Try.ntmps56
  go_wp2_with fail
  refine (ValidRules_c r _).mono ?_
  rintro e w1 ⟨rfl, hb1⟩
  rw [hok]
  have F1 := F0.step hb1
  obtain ⟨c0, c1, c2, c3, c4, c5, c6, c7, c8⟩ := R.boxc (F1.at 0 rfl)
  have zA : w.heap.size < w1.heap.size := F1.le 0 rfl
  have B1 := F1.below
  clear hok hb1 F0 F1
  cases hs : r.stores <;> cases hk : r.skip
  all_goals (rw [hs] at c2; rw [hk] at c3; rw [hs, hk] at HL)
  all_goals go_wp2
  all_goals go_ret2
  all_goals exact ⟨by rw [HL.out]; simp, B1⟩

end Go.Proofs.Yteabheocbkcmnaa
