/- Rules: the contracts of the small functions on numbers and on rules, of the program, of the reference and of the laws. Each holds for every argument, but for the bounds that its premises state. -/
import Derived.Test.YtbjgigdkbjabaaaBase
namespace Go.Proofs.Ytbjgigdkbjabaaa
set_option linter.unusedSimpArgs false
set_option linter.unusedVariables false
set_option linter.unnecessarySimpa false
open Go.RowKit Go.ChangeShapes Go.WideShapes Go.ChangeAt Go.Joins

def inB (n lo hi : Int) : Bool := decide (lo ≤ n) && decide (n ≤ hi)
theorem inB_iff {n lo hi : Int} : inB n lo hi = true ↔ lo ≤ n ∧ n ≤ hi := by simp [inB]
theorem inB_not {n lo hi : Int} : inB n lo hi = false ↔ ¬ (lo ≤ n ∧ n ≤ hi) := by rw [← inB_iff]; simp

structure R where
  pits : Int
  seeds : Int
  stores : Bool
  skip : Bool
  relay : Bool
  feed : Bool
  again : Bool
  capture : Int
  slam : Int
  deriving DecidableEq
@[go_sem] def R.cells (r : R) : Array Value := #[.int .i64 r.pits, .int .i64 r.seeds, .bool r.stores, .bool r.skip, .bool r.relay, .bool r.feed, .bool r.again, .int .i64 r.capture, .int .i64 r.slam]
@[go_sem] def R.val (r : R) : Value := .agg r.cells
def R.ok (r : R) : Bool := inB r.pits 2 8 && inB r.seeds 1 6 && inB r.capture 0 3 && inB r.slam 0 2 && (r.stores || !r.again)
theorem R.ok_iff {r : R} : r.ok = true ↔ (2 ≤ r.pits ∧ r.pits ≤ 8) ∧ (1 ≤ r.seeds ∧ r.seeds ≤ 6) ∧ (0 ≤ r.capture ∧ r.capture ≤ 3) ∧ (0 ≤ r.slam ∧ r.slam ≤ 2) ∧ (r.stores || !r.again) = true := by
  simp only [R.ok, Bool.and_eq_true, inB_iff, and_assoc]
theorem R.ext9 {a b : R} (h0 : a.pits = b.pits) (h1 : a.seeds = b.seeds) (h2 : a.stores = b.stores) (h3 : a.skip = b.skip) (h4 : a.relay = b.relay) (h5 : a.feed = b.feed) (h6 : a.again = b.again) (h7 : a.capture = b.capture) (h8 : a.slam = b.slam) : a = b := by
  cases a; cases b; simp_all
structure R.At (w : World) (b : Nat) (o : Nat) (r : R) : Prop where
  c0 : w.cell? ⟨b, o, none⟩ = some (.int .i64 r.pits)
  c1 : w.cell? ⟨b, o + 1, none⟩ = some (.int .i64 r.seeds)
  c2 : w.cell? ⟨b, o + 2, none⟩ = some (.bool r.stores)
  c3 : w.cell? ⟨b, o + 3, none⟩ = some (.bool r.skip)
  c4 : w.cell? ⟨b, o + 4, none⟩ = some (.bool r.relay)
  c5 : w.cell? ⟨b, o + 5, none⟩ = some (.bool r.feed)
  c6 : w.cell? ⟨b, o + 6, none⟩ = some (.bool r.again)
  c7 : w.cell? ⟨b, o + 7, none⟩ = some (.int .i64 r.capture)
  c8 : w.cell? ⟨b, o + 8, none⟩ = some (.int .i64 r.slam)
theorem R.At.below {w w' : World} {B b o : Nat} {r : R} (h : R.At w b o r) (hb : Below B w w') (hB : b < B) : R.At w' b o r :=
  ⟨(hb.cell hB).trans h.c0, (hb.cell hB).trans h.c1, (hb.cell hB).trans h.c2, (hb.cell hB).trans h.c3, (hb.cell hB).trans h.c4, (hb.cell hB).trans h.c5, (hb.cell hB).trans h.c6, (hb.cell hB).trans h.c7, (hb.cell hB).trans h.c8⟩

theorem open_rules {H : Type} {enc : TypeId × Value → H} {W : World} {base : Nat} {spare : Nat → Bool} {held : Bool} {fuel : Nat} {cs : List Value} {x : DataW H × List MemPlace}
    (h : DataW.trod enc Try.prog W base spare held fuel 23 cs = some x) : ∃ r : R, cs = r.cells.toList ∧ I64 r.pits ∧ I64 r.seeds ∧ I64 r.capture ∧ I64 r.slam := by
  obtain ⟨xs, n, _, _, hl, hxs, hf⟩ := DataW.trod_struct Try.underlying23 h
  have hc : Try.prog.cellsOf 23 = 9 := by kernel_rfl
  have ci : Try.prog.cellsOf 2 = 1 := by kernel_rfl
  have cb : Try.prog.cellsOf 4 = 1 := by kernel_rfl
  rw [hc] at hl
  obtain ⟨a0, a1, a2, a3, a4, a5, a6, a7, a8, rfl⟩ := list9 hl
  obtain ⟨y0, y1, y2, y3, y4, y5, y6, y7, y8, rfl⟩ := list9 (cs := xs) (by simpa using hxs)
  have f0 := hf 0 _ rfl
  have f1 := hf 1 _ rfl
  have f2 := hf 2 _ rfl
  have f3 := hf 3 _ rfl
  have f4 := hf 4 _ rfl
  have f5 := hf 5 _ rfl
  have f6 := hf 6 _ rfl
  have f7 := hf 7 _ rfl
  have f8 := hf 8 _ rfl
  simp [ci, cb] at f0 f1 f2 f3 f4 f5 f6 f7 f8
  obtain ⟨n0, e0, _, w0⟩ := DataW.trod_int Try.underlying2 f0
  obtain ⟨n1, e1, _, w1⟩ := DataW.trod_int Try.underlying2 f1
  obtain ⟨n2, e2, _⟩ := DataW.trod_bool Try.underlying4 f2
  obtain ⟨n3, e3, _⟩ := DataW.trod_bool Try.underlying4 f3
  obtain ⟨n4, e4, _⟩ := DataW.trod_bool Try.underlying4 f4
  obtain ⟨n5, e5, _⟩ := DataW.trod_bool Try.underlying4 f5
  obtain ⟨n6, e6, _⟩ := DataW.trod_bool Try.underlying4 f6
  obtain ⟨n7, e7, _, w7⟩ := DataW.trod_int Try.underlying2 f7
  obtain ⟨n8, e8, _, w8⟩ := DataW.trod_int Try.underlying2 f8
  simp at e0 e1 e2 e3 e4 e5 e6 e7 e8
  subst e0 e1 e2 e3 e4 e5 e6 e7 e8
  exact ⟨⟨n0, n1, n2, n3, n4, n5, n6, n7, n8⟩, rfl, I64_of_wf w0, I64_of_wf w1, I64_of_wf w7, I64_of_wf w8⟩

set_option maxRecDepth 100000 in
theorem arg_rules {H : Type} {enc : TypeId × Value → H} {W : World} {base : Nat} {v : Value} {d : DataW H} {p : List MemPlace}
    (hval : Value.okWide Try.prog W .any base 23 v) (h : DataW.Trod enc Try.prog W 0 (fun _ => true) true 23 v d p) : ∃ r : R, v = r.val ∧ I64 r.pits ∧ I64 r.seeds ∧ I64 r.capture ∧ I64 r.slam := by
  obtain ⟨cs, rfl⟩ := open_struct_val Try.underlying23 hval
  obtain ⟨fuel, hf⟩ := h
  obtain ⟨r, hr, hw⟩ := open_rules hf
  have hr' : cs = r.cells := Array.toList_inj.1 hr
  exact ⟨r, congrArg Value.agg hr', hw⟩

def rEq (a b : R) : Bool := decide (a = b)
set_option maxHeartbeats 400000 in
@[simp] theorem run_eql_rules (p s c l p' s' c' l' : Int) (t k e f g t' k' e' f' g' : Bool) (w : World) :
   (binOp .eql 33 (.agg #[.int .i64 p, .int .i64 s, .bool t, .bool k, .bool e, .bool f, .bool g, .int .i64 c, .int .i64 l]) (.agg #[.int .i64 p', .int .i64 s', .bool t', .bool k', .bool e', .bool f', .bool g', .int .i64 c', .int .i64 l'])).run Try.prog w = .ok (.bool (rEq ⟨p, s, t, k, e, f, g, c, l⟩ ⟨p', s', t', k', e', f', g', c', l'⟩)) w := by
  simp [go_sem]
  repeat' split
  all_goals (try simp_all [rEq])
theorem rEq_self (a : R) : rEq a a = true := by simp [rEq]
theorem rEq_ne {a b : R} (h : ¬ a = b) : rEq a b = false := by simp [rEq, h]

set_option maxHeartbeats 400000 in
theorem l00In_c (n lo hi : Int) (w : World) :
    Calls Try.prog 72 #[.int .i64 n, .int .i64 lo, .int .i64 hi] w fun e w' => e = .returned (.bool (inB n lo hi)) ∧ w = w' := by
  go_enter Try.func72, Try.ntmps72
  go_wp2
  all_goals go_ret
  all_goals refine ⟨?_, rfl⟩
  all_goals (simp [inB, *]; try omega)

set_option maxHeartbeats 400000 in
theorem between_c (n lo hi : Int) (w : World) :
    Calls Try.prog 76 #[.int .i64 n, .int .i64 lo, .int .i64 hi] w fun e w' => e = .returned (.bool (inB n lo hi)) ∧ w = w' := by
  go_enter Try.func76, Try.ntmps76
  go_wp2
  all_goals go_ret
  all_goals refine ⟨?_, rfl⟩
  all_goals (simp [inB, *]; try omega)

set_option maxHeartbeats 1000000 in
theorem l02Ok_c (b o : Nat) (r : R) (w : World) (h : R.At w b o r) :
    Calls Try.prog 103 #[.pointer (some ⟨b, o, none⟩)] w fun e w' => e = .returned (.bool r.ok) ∧ w = w' := by
  obtain ⟨c0, c1, c2, c3, c4, c5, c6, c7, c8⟩ := h
  go_enter Try.func103, Try.ntmps103
  go_wp2_with (go_at_call 72; refine (l00In_c _ _ _ _).mono ?_; rintro e w' ⟨rfl, rfl⟩)
  all_goals go_ret
  all_goals refine ⟨?_, rfl⟩
  all_goals simp [R.ok, *]

set_option maxHeartbeats 1000000 in
theorem ValidRules_c (r : R) (w : World) :
    Calls Try.prog 107 #[r.val] w fun e w' => e = .returned (.bool r.ok) ∧ Below w.heap.size w w' := by
  go_enter Try.func107, Try.ntmps107
  go_wp2_with (go_at_call 76; refine (between_c _ _ _ _).mono ?_; rintro e w' ⟨rfl, rfl⟩)
  all_goals go_ret
  all_goals refine ⟨?_, below_alloc1 _ _⟩
  all_goals simp [R.ok, *]

set_option maxHeartbeats 1000000 in
theorem toRules_c (r : R) (w : World) :
    Calls Try.prog 13 #[r.val] w fun e w' => e = .returned r.val ∧ Below w.heap.size w w' := by
  go_enter Try.func13, Try.ntmps13
  go_wp2
  refine bodyPost_ret (v := r.val) (by simp [results, Try.results13, go_sem]) rfl ⟨rfl, below_alloc3 _ _ _ _⟩

set_option maxHeartbeats 1000000 in
theorem eqRules_c (a b : R) (w : World) :
    Calls Try.prog 78 #[a.val, b.val] w fun e w' => e = .returned (.bool (decide (a = b))) ∧ Below w.heap.size w w' := by
  go_enter Try.func78, Try.ntmps78
  go_wp2
  all_goals go_ret
  all_goals refine ⟨?_, below_alloc2 _ _ _⟩
  all_goals first
    | (refine ret_bool (decide_eq_false (fun h => ?_)).symm; subst h; simp_all; done)
    | (refine ret_bool (decide_eq_true ?_).symm; cases a; cases b; simp_all; done)

end Go.Proofs.Ytbjgigdkbjabaaa
