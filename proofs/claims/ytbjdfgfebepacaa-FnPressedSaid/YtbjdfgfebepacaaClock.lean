/- Clock: clocks: the laws' argument, opened, and the contracts of the functions on clocks. Each holds for every argument, under the premises that it states. -/
import Derived.Test.YtbjdfgfebepacaaInts
import Derived.Deep.RegionHeld3
import Derived.StillTailTactics
namespace Go.Proofs.Ytbjdfgfebepacaa
set_option linter.unusedSimpArgs false
set_option linter.unusedVariables false
set_option linter.unnecessarySimpa false
open Go.RowKit Go.ChangeShapes Go.WideShapes Go.ChangeAt Go.Joins

structure Ck where
  left : List Int
  inc : Int
  delay : Int
  player : Int
  since : Int
  running : Bool
  fallen : Bool
  deriving DecidableEq
@[go_sem] def Ck.cells (x : Ck) (a : Option Addr) (c : Nat) : Array Value := #[.slice a x.left.length c, .int .i64 x.inc, .int .i64 x.delay, .int .i64 x.player, .int .i64 x.since, .bool x.running, .bool x.fallen]
@[go_sem] def Ck.val (x : Ck) (a : Option Addr) (c : Nat) : Value := .agg (x.cells a c)
def isT (n : Int) : Bool := inB n 0 36000000
theorem isT_iff {n : Int} : isT n = true ↔ 0 ≤ n ∧ n ≤ 36000000 := inB_iff
/-- the second part of a clock's rules, for a clock of two numbers -/
def Ck.rest (x : Ck) (p q : Int) : Bool := if x.fallen then ((if x.player = 0 then p else q) == 0) && !x.running && (x.since == 0) else decide (0 < p) && decide (0 < q) && (x.running || (x.since == 0))
def Ck.first (x : Ck) (p q : Int) : Bool := isT p && isT q && isT x.inc && isT x.delay && isT x.since && inB x.player 0 1
def Ck.ok (x : Ck) : Bool := match x.left with | [p, q] => x.first p q && x.rest p q | _ => false

theorem isTime_c (n : Int) (w : World) :
    Calls Try.prog 128 #[.int .i64 n] w fun e w' => e = .returned (.bool (isT n)) ∧ w = w' := by
  go_enter Try.func128, Try.ntmps128
  go_wp2_with (go_at_call 98; refine (between_c _ _ _ _).mono ?_; rintro e w' ⟨rfl, rfl⟩)
  go_ret
  exact ⟨rfl, rfl⟩
theorem l23Time_c (n : Int) (w : World) :
    Calls Try.prog 175 #[.int .i64 n] w fun e w' => e = .returned (.bool (isT n)) ∧ w = w' := by
  go_enter Try.func175, Try.ntmps175
  go_wp2_with (go_at_call 104; refine (l00In_c _ _ _ _).mono ?_; rintro e w' ⟨rfl, rfl⟩)
  go_ret
  exact ⟨rfl, rfl⟩
theorem isPlayer_c (n : Int) (w : World) :
    Calls Try.prog 124 #[.int .i64 n] w fun e w' => e = .returned (.bool (inB n 0 1)) ∧ w = w' := by
  go_enter Try.func124, Try.ntmps124
  go_wp2
  all_goals go_ret
  all_goals refine ⟨ret_bool ?_, rfl⟩
  all_goals (rw [Bool.eq_iff_iff]; simp [inB, *]; try omega)

theorem ints_two {w : World} {a : Option Addr} {p q : Int} (h : Ints w a [p, q]) : ∃ b off, a = some ⟨b, off, none⟩ ∧ b < w.heap.size ∧ w.cell? ⟨b, off, none⟩ = some (.int .i64 p) ∧ w.cell? ⟨b, off + 1, none⟩ = some (.int .i64 q) := by
  obtain ⟨b, o, ha, hb, hc⟩ := Row.at h (by simp)
  exact ⟨b, o, ha, hb, hc 0 _ rfl, hc 1 _ rfl⟩
theorem list_two {α : Type} {xs : List α} (h : xs.length = 2) : ∃ p q, xs = [p, q] := by
  match xs, h with
  | [p, q], _ => exact ⟨p, q, rfl⟩
theorem Ck.ok_len {x : Ck} (h : ¬ x.left.length = 2) : x.ok = false := by
  unfold Ck.ok
  split
  · rename_i p q e; rw [e] at h; simp at h
  · rfl
theorem Ck.ok_two {x : Ck} {p q : Int} (h : x.left = [p, q]) : x.ok = (x.first p q && x.rest p q) := by simp [Ck.ok, h]
theorem Ck.first_cases (x : Ck) (p q : Int) : (isT p = false ∧ x.first p q = false) ∨ (isT p = true ∧ isT q = false ∧ x.first p q = false) ∨ (isT p = true ∧ isT q = true ∧ isT x.inc = false ∧ x.first p q = false) ∨
    (isT p = true ∧ isT q = true ∧ isT x.inc = true ∧ isT x.delay = false ∧ x.first p q = false) ∨ (isT p = true ∧ isT q = true ∧ isT x.inc = true ∧ isT x.delay = true ∧ isT x.since = false ∧ x.first p q = false) ∨
    (isT p = true ∧ isT q = true ∧ isT x.inc = true ∧ isT x.delay = true ∧ isT x.since = true ∧ inB x.player 0 1 = false ∧ x.first p q = false) ∨
    (isT p = true ∧ isT q = true ∧ isT x.inc = true ∧ isT x.delay = true ∧ isT x.since = true ∧ inB x.player 0 1 = true ∧ x.first p q = true) := by
  unfold Ck.first
  cases isT p <;> cases isT q <;> cases isT x.inc <;> cases isT x.delay <;> cases isT x.since <;> cases inB x.player 0 1 <;> simp
set_option maxHeartbeats 2000000 in
theorem ValidClock_c (x : Ck) (a : Option Addr) (c : Nat) (w : World) (h : Ints w a x.left) (hm : x.left.length ≤ maxLen) :
    Calls Try.prog 38 #[x.val a c] w fun e w' => e = .returned (.bool x.ok) ∧ Below w.heap.size w w' := by
  unfold maxLen at hm
  obtain ⟨xl, xi, xd, xp, xs, xr, xf⟩ := x
  by_cases hl : xl.length = 2
  · obtain ⟨p, q, rfl⟩ := list_two hl
    have HO := Lib.hid (Ck.ok_two (x := ⟨[p, q], xi, xd, xp, xs, xr, xf⟩) rfl)
    obtain ⟨b, o, rfl, hb, c0, c1⟩ := ints_two h
    clear h hl hm
    rcases Ck.first_cases ⟨[p, q], xi, xd, xp, xs, xr, xf⟩ p q with ⟨t1, tf⟩ | ⟨t1, t2, tf⟩ | ⟨t1, t2, t3, tf⟩ | ⟨t1, t2, t3, t4, tf⟩ | ⟨t1, t2, t3, t4, t5, tf⟩ | ⟨t1, t2, t3, t4, t5, t6, tf⟩ | ⟨t1, t2, t3, t4, t5, t6, tf⟩
    case inr.inr.inr.inr.inr.inr =>
      have HF := Lib.hid tf
      have hpl : 0 ≤ xp ∧ xp ≤ 1 := inB_iff.1 t6
      clear tf
      have hp01 : xp = 0 ∨ xp = 1 := by omega
      clear hpl
      rcases hp01 with rfl | rfl
      all_goals
        go_enter Try.func38, Try.ntmps38
        go_wp2_with (first | (go_at_call 128; refine (isTime_c _ _).mono ?_; rintro e w' ⟨rfl, rfl⟩) | (go_at_call 124; refine (isPlayer_c _ _).mono ?_; rintro e w' ⟨rfl, rfl⟩))
        all_goals go_ret
        all_goals refine ⟨?_, below_alloc1 _ _⟩
        all_goals (refine ret_bool ?_; simp [Ck.ok, Ck.first, Ck.rest, *])
        all_goals (intro hh; first | (exfalso; omega) | (simp [isT, inB]; done) | (intro hh2; exfalso; omega))
    all_goals
      have HF := Lib.hid tf
      clear tf
      go_enter Try.func38, Try.ntmps38
      go_wp2_with (first | (go_at_call 128; refine (isTime_c _ _).mono ?_; rintro e w' ⟨rfl, rfl⟩) | (go_at_call 124; refine (isPlayer_c _ _).mono ?_; rintro e w' ⟨rfl, rfl⟩))
      go_ret
      exact ⟨ret_bool (by rw [HO.out, HF.out]; rfl), below_alloc1 _ _⟩
  · have HO := Lib.hid (Ck.ok_len (x := ⟨xl, xi, xd, xp, xs, xr, xf⟩) hl)
    have ht : ((xl.length : Int) != 2) = true := by rw [bne_iff_ne]; omega
    clear hl
    go_enter Try.func38, Try.ntmps38
    go_wp2
    go_ret
    exact ⟨ret_bool (by rw [HO.out]), below_alloc1 _ _⟩

/-- the cells of a clock in memory -/
structure Ck.At (w : World) (b o : Nat) (x : Ck) (a : Option Addr) (c : Nat) : Prop where
  c0 : w.cell? ⟨b, o, none⟩ = some (.slice a x.left.length c)
  c1 : w.cell? ⟨b, o + 1, none⟩ = some (.int .i64 x.inc)
  c2 : w.cell? ⟨b, o + 2, none⟩ = some (.int .i64 x.delay)
  c3 : w.cell? ⟨b, o + 3, none⟩ = some (.int .i64 x.player)
  c4 : w.cell? ⟨b, o + 4, none⟩ = some (.int .i64 x.since)
  c5 : w.cell? ⟨b, o + 5, none⟩ = some (.bool x.running)
  c6 : w.cell? ⟨b, o + 6, none⟩ = some (.bool x.fallen)
theorem Ck.first_cases2 (x : Ck) (p q : Int) : (isT p = false ∧ x.first p q = false) ∨ (isT p = true ∧ isT q = false ∧ x.first p q = false) ∨ (isT p = true ∧ isT q = true ∧ isT x.inc = false ∧ x.first p q = false) ∨
    (isT p = true ∧ isT q = true ∧ isT x.inc = true ∧ isT x.delay = false ∧ x.first p q = false) ∨ (isT p = true ∧ isT q = true ∧ isT x.inc = true ∧ isT x.delay = true ∧ inB x.player 0 1 = false ∧ x.first p q = false) ∨
    (isT p = true ∧ isT q = true ∧ isT x.inc = true ∧ isT x.delay = true ∧ inB x.player 0 1 = true ∧ isT x.since = false ∧ x.first p q = false) ∨
    (isT p = true ∧ isT q = true ∧ isT x.inc = true ∧ isT x.delay = true ∧ inB x.player 0 1 = true ∧ isT x.since = true ∧ x.first p q = true) := by
  unfold Ck.first
  cases isT p <;> cases isT q <;> cases isT x.inc <;> cases isT x.delay <;> cases isT x.since <;> cases inB x.player 0 1 <;> simp
set_option maxHeartbeats 4000000 in
theorem l23Ok_c (cb co : Nat) (x : Ck) (a : Option Addr) (c : Nat) (w : World) (hat : Ck.At w cb co x a c) (h : Ints w a x.left) (hm : x.left.length ≤ maxLen) :
    Calls Try.prog 121 #[.pointer (some ⟨cb, co, none⟩)] w fun e w' => e = .returned (.bool x.ok) ∧ ∃ m, w' = w.drewN m := by
  unfold maxLen at hm
  obtain ⟨k0, k1, k2, k3, k4, k5, k6⟩ := hat
  obtain ⟨xl, xi, xd, xp, xs, xr, xf⟩ := x
  by_cases hl : xl.length = 2
  · obtain ⟨p, q, rfl⟩ := list_two hl
    have HO := Lib.hid (Ck.ok_two (x := ⟨[p, q], xi, xd, xp, xs, xr, xf⟩) rfl)
    obtain ⟨b, o, rfl, hb, c0, c1⟩ := ints_two h
    clear h hl hm
    rcases Ck.first_cases2 ⟨[p, q], xi, xd, xp, xs, xr, xf⟩ p q with ⟨t1, tf⟩ | ⟨t1, t2, tf⟩ | ⟨t1, t2, t3, tf⟩ | ⟨t1, t2, t3, t4, tf⟩ | ⟨t1, t2, t3, t4, t6, tf⟩ | ⟨t1, t2, t3, t4, t6, t5, tf⟩ | ⟨t1, t2, t3, t4, t6, t5, tf⟩
    case inr.inr.inr.inr.inr.inr =>
      have HF := Lib.hid tf
      have hpl : 0 ≤ xp ∧ xp ≤ 1 := inB_iff.1 t6
      clear tf
      have hp01 : xp = 0 ∨ xp = 1 := by omega
      clear hpl
      cases xf
      · rcases hp01 with rfl | rfl
        all_goals
          go_enter Try.func121, Try.ntmps121
          go_wp2_with (first | (go_at_call 175; refine (l23Time_c _ _).mono ?_; rintro e w' ⟨rfl, rfl⟩) | (go_at_call 104; refine (l00In_c _ _ _ _).mono ?_; rintro e w' ⟨rfl, rfl⟩))
          all_goals go_ret
          all_goals refine ⟨?_, 0, rfl⟩
          all_goals (refine ret_bool ?_; simp [Ck.ok, Ck.first, Ck.rest, *])
          all_goals (intro hh; first | (exfalso; omega) | (simp [isT, inB]; done) | (intro hh2; exfalso; omega))
      · have HS : Hid (Ck.rest ⟨[p, q], xi, xd, xp, xs, xr, true⟩ p q = (((if xp = 0 then p else q) == 0) && !xr && (xs == 0))) := by simp [Ck.rest, Hid]
        rcases hp01 with rfl | rfl
        · cases hz : (p == 0) <;> cases xr <;> cases hs : (xs == 0)
          all_goals
            go_enter Try.func121, Try.ntmps121
            go_wp2_with (first | (go_at_call 175; refine (l23Time_c _ _).mono ?_; rintro e w' ⟨rfl, rfl⟩) | (go_at_call 104; refine (l00In_c _ _ _ _).mono ?_; rintro e w' ⟨rfl, rfl⟩))
            go_quiet (fail)
            go_wp2
            go_ret
            refine ⟨?_, _, rfl⟩
            refine ret_bool ?_
            rw [HO.out, HF.out, HS.out]
            simp [hz, hs]
        · cases hz : (q == 0) <;> cases xr <;> cases hs : (xs == 0)
          all_goals
            go_enter Try.func121, Try.ntmps121
            go_wp2_with (first | (go_at_call 175; refine (l23Time_c _ _).mono ?_; rintro e w' ⟨rfl, rfl⟩) | (go_at_call 104; refine (l00In_c _ _ _ _).mono ?_; rintro e w' ⟨rfl, rfl⟩))
            go_quiet (fail)
            go_wp2
            go_ret
            refine ⟨?_, _, rfl⟩
            refine ret_bool ?_
            rw [HO.out, HF.out, HS.out]
            simp [hz, hs]
    all_goals
      have HF := Lib.hid tf
      clear tf
      go_enter Try.func121, Try.ntmps121
      go_wp2_with (first | (go_at_call 175; refine (l23Time_c _ _).mono ?_; rintro e w' ⟨rfl, rfl⟩) | (go_at_call 104; refine (l00In_c _ _ _ _).mono ?_; rintro e w' ⟨rfl, rfl⟩))
      go_ret
      exact ⟨ret_bool (by rw [HO.out, HF.out]; rfl), 0, rfl⟩
  · have HO := Lib.hid (Ck.ok_len (x := ⟨xl, xi, xd, xp, xs, xr, xf⟩) hl)
    have ht : ((xl.length : Int) != 2) = true := by rw [bne_iff_ne]; omega
    clear hl
    go_enter Try.func121, Try.ntmps121
    go_wp2
    go_ret
    exact ⟨ret_bool (by rw [HO.out]), 0, rfl⟩

end Go.Proofs.Ytbjdfgfebepacaa
