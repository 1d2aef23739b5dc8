/- Rules: the contracts of the small functions on numbers and on rules, of the program, of the reference and of the laws. Each holds for every argument, but for the bounds that its premises state. -/
import Derived.Test.YtenjffoboiohnaaDoorBase
namespace Go.Proofs.YtenjffoboiohnaaDoor
set_option linter.unusedSimpArgs false
set_option linter.unusedVariables false
set_option linter.unnecessarySimpa false
open Go.RowKit Go.ChangeShapes Go.WideShapes Go.ChangeAt Go.Joins

def inB (n lo hi : Int) : Bool := decide (lo ≤ n) && decide (n ≤ hi)
theorem inB_iff {n lo hi : Int} : inB n lo hi = true ↔ lo ≤ n ∧ n ≤ hi := by simp [inB]
theorem inB_not {n lo hi : Int} : inB n lo hi = false ↔ ¬ (lo ≤ n ∧ n ≤ hi) := by rw [← inB_iff]; simp

structure R where
  pits : Int
  seeds : Int
  stores : Bool
  skip : Bool
  relay : Bool
  feed : Bool
  again : Bool
  capture : Int
  slam : Int
  deriving DecidableEq
@[go_sem] def R.cells (r : R) : Array Value := #[.int .i64 r.pits, .int .i64 r.seeds, .bool r.stores, .bool r.skip, .bool r.relay, .bool r.feed, .bool r.again, .int .i64 r.capture, .int .i64 r.slam]
@[go_sem] def R.val (r : R) : Value := .agg r.cells
def R.ok (r : R) : Bool := inB r.pits 2 8 && inB r.seeds 1 6 && inB r.capture 0 3 && inB r.slam 0 2 && (r.stores || !r.again)
theorem R.ok_iff {r : R} : r.ok = true ↔ (2 ≤ r.pits ∧ r.pits ≤ 8) ∧ (1 ≤ r.seeds ∧ r.seeds ≤ 6) ∧ (0 ≤ r.capture ∧ r.capture ≤ 3) ∧ (0 ≤ r.slam ∧ r.slam ≤ 2) ∧ (r.stores || !r.again) = true := by
  simp only [R.ok, Bool.and_eq_true, inB_iff, and_assoc]
theorem R.ext9 {a b : R} (h0 : a.pits = b.pits) (h1 : a.seeds = b.seeds) (h2 : a.stores = b.stores) (h3 : a.skip = b.skip) (h4 : a.relay = b.relay) (h5 : a.feed = b.feed) (h6 : a.again = b.again) (h7 : a.capture = b.capture) (h8 : a.slam = b.slam) : a = b := by
  cases a; cases b; simp_all
structure R.At (w : World) (b : Nat) (o : Nat) (r : R) : Prop where
  c0 : w.cell? ⟨b, o, none⟩ = some (.int .i64 r.pits)
  c1 : w.cell? ⟨b, o + 1, none⟩ = some (.int .i64 r.seeds)
  c2 : w.cell? ⟨b, o + 2, none⟩ = some (.bool r.stores)
  c3 : w.cell? ⟨b, o + 3, none⟩ = some (.bool r.skip)
  c4 : w.cell? ⟨b, o + 4, none⟩ = some (.bool r.relay)
  c5 : w.cell? ⟨b, o + 5, none⟩ = some (.bool r.feed)
  c6 : w.cell? ⟨b, o + 6, none⟩ = some (.bool r.again)
  c7 : w.cell? ⟨b, o + 7, none⟩ = some (.int .i64 r.capture)
  c8 : w.cell? ⟨b, o + 8, none⟩ = some (.int .i64 r.slam)
theorem R.At.below {w w' : World} {B b o : Nat} {r : R} (h : R.At w b o r) (hb : Below B w w') (hB : b < B) : R.At w' b o r :=
  ⟨(hb.cell hB).trans h.c0, (hb.cell hB).trans h.c1, (hb.cell hB).trans h.c2, (hb.cell hB).trans h.c3, (hb.cell hB).trans h.c4, (hb.cell hB).trans h.c5, (hb.cell hB).trans h.c6, (hb.cell hB).trans h.c7, (hb.cell hB).trans h.c8⟩

def rEq (a b : R) : Bool := decide (a = b)
set_option maxHeartbeats 400000 in
@[simp] theorem run_eql_rules (p s c l p' s' c' l' : Int) (t k e f g t' k' e' f' g' : Bool) (w : World) :
   (binOp .eql 25 (.agg #[.int .i64 p, .int .i64 s, .bool t, .bool k, .bool e, .bool f, .bool g, .int .i64 c, .int .i64 l]) (.agg #[.int .i64 p', .int .i64 s', .bool t', .bool k', .bool e', .bool f', .bool g', .int .i64 c', .int .i64 l'])).run Tryd.prog w = .ok (.bool (rEq ⟨p, s, t, k, e, f, g, c, l⟩ ⟨p', s', t', k', e', f', g', c', l'⟩)) w := by
  simp [go_sem]
  repeat' split
  all_goals (try simp_all [rEq])
theorem rEq_self (a : R) : rEq a a = true := by simp [rEq]
theorem rEq_ne {a b : R} (h : ¬ a = b) : rEq a b = false := by simp [rEq, h]

set_option maxHeartbeats 400000 in
theorem l00In_c (n lo hi : Int) (w : World) :
    Calls Tryd.prog 40 #[.int .i64 n, .int .i64 lo, .int .i64 hi] w fun e w' => e = .returned (.bool (inB n lo hi)) ∧ w = w' := by
  go_enter Tryd.func40, Tryd.ntmps40
  go_wp2
  all_goals go_ret
  all_goals refine ⟨?_, rfl⟩
  all_goals (simp [inB, *]; try omega)

set_option maxHeartbeats 400000 in
theorem between_c (n lo hi : Int) (w : World) :
    Calls Tryd.prog 43 #[.int .i64 n, .int .i64 lo, .int .i64 hi] w fun e w' => e = .returned (.bool (inB n lo hi)) ∧ w = w' := by
  go_enter Tryd.func43, Tryd.ntmps43
  go_wp2
  all_goals go_ret
  all_goals refine ⟨?_, rfl⟩
  all_goals (simp [inB, *]; try omega)

set_option maxHeartbeats 1000000 in
theorem l02Ok_c (b o : Nat) (r : R) (w : World) (h : R.At w b o r) :
    Calls Tryd.prog 39 #[.pointer (some ⟨b, o, none⟩)] w fun e w' => e = .returned (.bool r.ok) ∧ w = w' := by
  obtain ⟨c0, c1, c2, c3, c4, c5, c6, c7, c8⟩ := h
  go_enter Tryd.func39, Tryd.ntmps39
  go_wp2_with (go_at_call 40; refine (l00In_c _ _ _ _).mono ?_; rintro e w' ⟨rfl, rfl⟩)
  all_goals go_ret
  all_goals refine ⟨?_, rfl⟩
  all_goals simp [R.ok, *]

set_option maxHeartbeats 1000000 in
theorem ValidRules_c (r : R) (w : World) :
    Calls Tryd.prog 37 #[r.val] w fun e w' => e = .returned (.bool r.ok) ∧ Below w.heap.size w w' := by
  go_enter Tryd.func37, Tryd.ntmps37
  go_wp2_with (go_at_call 43; refine (between_c _ _ _ _).mono ?_; rintro e w' ⟨rfl, rfl⟩)
  all_goals go_ret
  all_goals refine ⟨?_, below_alloc1 _ _⟩
  all_goals simp [R.ok, *]

end Go.Proofs.YtenjffoboiohnaaDoor
