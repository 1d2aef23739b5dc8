/- Clock5: the frame's places for clocks; the laws' copy of a clock. Each contract holds for every argument, under the premises that it states. -/
import Derived.Test.YtdopdoniipppcaaClock4
import Derived.Test.YtdopdoniipppcaaFrame
namespace Go.Proofs.Ytdopdoniipppcaa
set_option linter.unusedSimpArgs false
set_option linter.unusedVariables false
set_option linter.unnecessarySimpa false
open Go.RowKit Go.ChangeShapes Go.WideShapes Go.ChangeAt Go.Joins

theorem Ck.boxc {w : World} {b : Nat} {x : Ck} {a : Option Addr} {c : Nat} (h : BoxP b (x.cells a c).toList w) :
    w.cell? ⟨b, 0, none⟩ = some (.slice a x.left.length c) ∧ w.cell? ⟨b, 1, none⟩ = some (.int .i64 x.inc) ∧ w.cell? ⟨b, 2, none⟩ = some (.int .i64 x.delay) ∧ w.cell? ⟨b, 3, none⟩ = some (.int .i64 x.player) ∧
    w.cell? ⟨b, 4, none⟩ = some (.int .i64 x.since) ∧ w.cell? ⟨b, 5, none⟩ = some (.bool x.running) ∧ w.cell? ⟨b, 6, none⟩ = some (.bool x.fallen) :=
  ⟨h 0 _ rfl, h 1 _ rfl, h 2 _ rfl, h 3 _ rfl, h 4 _ rfl, h 5 _ rfl, h 6 _ rfl⟩

set_option maxHeartbeats 2000000 in
theorem toClock_c (x : Ck) (a : Option Addr) (c : Nat) (w : World) (h : Ints w a x.left) (h1 : x.left.length ≤ 1048576) :
    Calls Try.prog 9 #[x.val a c] w fun e w' => ∃ a' c', e = .returned (x.val a' c') ∧ OwnI w' w.heap.size a' c' x.left ∧ Below w.heap.size w w' := by
  go_enter Try.func9, Try.ntmps9
  go_wp2_with fail
  refine (toInt64S_c _ _ _ _ (h.below (below_alloc3 _ _ _ _) (Nat.le_refl _)) h1).mono ?_
  rintro e w1 ⟨rfl, hown1, hb1⟩
  obtain ⟨hc1, hf1⟩ := bcell hb1
  simp only [World.size_alloc] at hb1 hown1 hc1 hf1
  have hz1 : w.heap.size + 3 ≤ w1.heap.size := by have := hb1.size; simp at this; omega
  have hz1a : w.heap.size < w1.heap.size := by omega
  have hz1b : w.heap.size + 1 < w1.heap.size := by omega
  have hz1c : w.heap.size + 1 + 1 < w1.heap.size := by omega
  have hbw1 : Below w.heap.size w w1 := (below_alloc3 _ _ _ _).trans (hb1.mono (by omega))
  have HO1 := Lib.hid hown1
  clear hown1
  go_wp2
  refine bodyPost_ret (v := x.val (some ⟨w.heap.size + 1 + 1 + 1, 0, none⟩) x.left.length) (by simp [results, Try.results9, go_sem, hc1, hz1a, hz1b, hz1c, Ck.val, Ck.cells]) rfl ⟨_, _, rfl, ?_, ?_⟩
  · have k0 := HO1.out
    refine ownsRow_le (base := w.heap.size + 1 + 1 + 1) ?_ (by omega)
    repeat (first | (with_reducible exact k0) | ((with_reducible refine ownsRow_setCell_below ?_ ?_ _); rotate_left; (simp <;> omega)))
  · repeat (first | (with_reducible exact hbw1) | ((with_reducible refine Below.setCell ?_ ?_ _); rotate_left; (simp <;> omega)))

theorem list7 {α : Type} {cs : List α} (h : cs.length = 7) : ∃ a b c d e f g, cs = [a, b, c, d, e, f, g] := by
  match cs, h with
  | [a, b, c, d, e, f, g], _ => exact ⟨a, b, c, d, e, f, g, rfl⟩
theorem open_clock {H : Type} {enc : TypeId × Value → H} {W : World} {held : Bool} {fuel : Nat} {cs : List Value} {x : DataW H × List MemPlace}
    (h : DataW.trod enc Try.prog W 0 (fun _ => true) held fuel 24 cs = some x) :
    ∃ (k : Ck) (a : Option Addr) (c : Nat), cs = (k.cells a c).toList ∧ Ints W a k.left ∧ k.left.length ≤ maxLen := by
  obtain ⟨xs, n, _, _, hl, hxs, hf⟩ := DataW.trod_struct Try.underlying24 h
  have hc : Try.prog.cellsOf 24 = 7 := by kernel_rfl
  have ci : Try.prog.cellsOf 2 = 1 := by kernel_rfl
  have cb : Try.prog.cellsOf 4 = 1 := by kernel_rfl
  have cl : Try.prog.cellsOf 22 = 1 := by kernel_rfl
  rw [hc] at hl
  obtain ⟨a0, a1, a2, a3, a4, a5, a6, rfl⟩ := list7 hl
  obtain ⟨y0, y1, y2, y3, y4, y5, y6, rfl⟩ := list7 (cs := xs) (by simpa using hxs)
  have f0 := hf 0 _ rfl
  have f1 := hf 1 _ rfl
  have f2 := hf 2 _ rfl
  have f3 := hf 3 _ rfl
  have f4 := hf 4 _ rfl
  have f5 := hf 5 _ rfl
  have f6 := hf 6 _ rfl
  simp [ci, cb, cl] at f0 f1 f2 f3 f4 f5 f6
  obtain ⟨a, c, vs, e0, r0, m0, _⟩ := open_slice_ints f0
  obtain ⟨n1, e1, _, _⟩ := DataW.trod_int Try.underlying2 f1
  obtain ⟨n2, e2, _, _⟩ := DataW.trod_int Try.underlying2 f2
  obtain ⟨n3, e3, _, _⟩ := DataW.trod_int Try.underlying2 f3
  obtain ⟨n4, e4, _, _⟩ := DataW.trod_int Try.underlying2 f4
  obtain ⟨n5, e5, _⟩ := DataW.trod_bool Try.underlying4 f5
  obtain ⟨n6, e6, _⟩ := DataW.trod_bool Try.underlying4 f6
  simp at e0 e1 e2 e3 e4 e5 e6
  subst e0 e1 e2 e3 e4 e5 e6
  exact ⟨⟨vs, n1, n2, n3, n4, n5, n6⟩, a, c, rfl, r0, m0⟩
set_option maxRecDepth 100000 in
theorem arg_clock {H : Type} {enc : TypeId × Value → H} {W : World} {base : Nat} {v : Value} {d : DataW H} {q : List MemPlace}
    (hval : Value.okWide Try.prog W .any base 24 v) (h : DataW.Trod enc Try.prog W 0 (fun _ => true) true 24 v d q) :
    ∃ (k : Ck) (a : Option Addr) (c : Nat), v = k.val a c ∧ Ints W a k.left ∧ k.left.length ≤ maxLen := by
  obtain ⟨cs, rfl⟩ := open_struct_val Try.underlying24 hval
  obtain ⟨fuel, hf⟩ := h
  obtain ⟨k, a, c, hr, hw⟩ := open_clock hf
  have hr' : cs = k.cells a c := Array.toList_inj.1 hr
  exact ⟨k, a, c, congrArg Value.agg hr', hw⟩

end Go.Proofs.Ytdopdoniipppcaa
