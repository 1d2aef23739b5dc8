/- Clock2: clocks that are copied and started. Each contract holds for every argument, under the premises that it states. -/
import Derived.Test.YtbjdfgfebepacaaClock
import Derived.Test.YtbjdfgfebepacaaCopy
namespace Go.Proofs.Ytbjdfgfebepacaa
set_option linter.unusedSimpArgs false
set_option linter.unusedVariables false
set_option linter.unnecessarySimpa false
open Go.RowKit Go.ChangeShapes Go.WideShapes Go.ChangeAt Go.Joins

def Ck.code (x : Ck) (now : Int) (run : Bool) : Int := if x.ok = false then 1 else if inB now x.since 36000000 = false then 2 else if (x.running != run) || x.fallen then 6 else 0
def Ck.zero : Ck := ⟨[], 0, 0, 0, 0, false, false⟩
def startCk (x : Ck) (now : Int) : Ck × Int := if x.code now false = 0 then ({ x with running := true, since := now }, 0) else (Ck.zero, x.code now false)
/-- two results, a clock of the call's own and a number -/
def CkRes (w : World) (y : Ck × Int) (e : Ending) (w' : World) : Prop :=
  ∃ a c, e = .returned (.tuple #[y.1.val a c, .int .i64 y.2]) ∧ OwnI w' w.heap.size a c y.1.left ∧ Below w.heap.size w w'
theorem ownI_nil (w : World) (base : Nat) : OwnI w base none 0 [] := World.ownsRow_nil _ _ _ _

set_option maxHeartbeats 1000000 in
theorem isNow_c (x : Ck) (a : Option Addr) (c : Nat) (now : Int) (w : World) :
    Calls Try.prog 125 #[x.val a c, .int .i64 now] w fun e w' => e = .returned (.bool (inB now x.since 36000000)) ∧ Below w.heap.size w w' := by
  go_enter Try.func125, Try.ntmps125
  go_wp2_with (go_at_call 98; refine (between_c _ _ _ _).mono ?_; rintro e w' ⟨rfl, rfl⟩)
  go_ret
  exact ⟨rfl, below_alloc1 _ _⟩

set_option maxHeartbeats 1000000 in
theorem ckCopied_c (x : Ck) (a : Option Addr) (c : Nat) (w : World) (h : Ints w a x.left) (hm : x.left.length ≤ 16777216) :
    Calls Try.prog 129 #[x.val a c] w fun e w' => ∃ a' c', e = .returned (x.val a' c') ∧ OwnI w' w.heap.size a' c' x.left ∧ Below w.heap.size w w' := by
  go_enter Try.func129, Try.ntmps129
  go_wp2_with fail
  refine (copyNumbers_c a c x.left _ (h.below (below_alloc2 _ _ _) (Nat.le_refl _)) hm).mono ?_
  rintro e w1 ⟨a', c', rfl, hown, hb1⟩
  obtain ⟨hc1, hf1⟩ := bcell hb1
  simp only [World.size_alloc] at hb1 hc1 hf1
  have hz1 : w.heap.size + 2 ≤ w1.heap.size := by have := hb1.size; simp at this; omega
  have hz1a : w.heap.size < w1.heap.size := by omega
  have hz1b : w.heap.size + 1 < w1.heap.size := by omega
  have hbw1 : Below w.heap.size w w1 := (below_alloc2 _ _ _).trans (hb1.mono (by omega))
  have HO := Lib.hid hown
  clear hown
  have q0 : w1.cell? ⟨w.heap.size, 0, none⟩ = some (.slice a x.left.length c) := by rw [hc1 _ _ (by omega)]; simp
  have q1 : w1.cell? ⟨w.heap.size, 1, none⟩ = some (.int .i64 x.inc) := by rw [hc1 _ _ (by omega)]; simp
  have q2 : w1.cell? ⟨w.heap.size, 2, none⟩ = some (.int .i64 x.delay) := by rw [hc1 _ _ (by omega)]; simp
  have q3 : w1.cell? ⟨w.heap.size, 3, none⟩ = some (.int .i64 x.player) := by rw [hc1 _ _ (by omega)]; simp
  have q4 : w1.cell? ⟨w.heap.size, 4, none⟩ = some (.int .i64 x.since) := by rw [hc1 _ _ (by omega)]; simp
  have q5 : w1.cell? ⟨w.heap.size, 5, none⟩ = some (.bool x.running) := by rw [hc1 _ _ (by omega)]; simp
  have q6 : w1.cell? ⟨w.heap.size, 6, none⟩ = some (.bool x.fallen) := by rw [hc1 _ _ (by omega)]; simp
  go_wp2
  refine bodyPost_ret (v := x.val a' c') (by simp [results, Try.results129, go_sem, hc1, hz1a, hz1b, Ck.val, Ck.cells]) rfl ⟨_, _, rfl, ?_, ?_⟩
  · have k0 := HO.out
    simp only [World.size_alloc] at k0
    refine ownsRow_le (base := w.heap.size + 1 + 1) ?_ (by omega)
    repeat (first | (with_reducible exact k0) | ((with_reducible refine ownsRow_setCell_below ?_ ?_ _); rotate_left; (simp <;> omega)))
  · repeat (first | (with_reducible exact hbw1) | ((with_reducible refine Below.setCell ?_ ?_ _); rotate_left; (simp <;> omega)))

set_option maxRecDepth 100000 in
set_option maxHeartbeats 1000000 in
theorem l23Own_c (cb co : Nat) (x : Ck) (a : Option Addr) (c : Nat) (w : World) (hat : Ck.At w cb co x a c) (hlt : cb < w.heap.size) (h : Ints w a x.left) (hm : x.left.length ≤ 16777216) :
    Calls Try.prog 130 #[.pointer (some ⟨cb, co, none⟩)] w fun e w' => ∃ a' c', e = .returned (x.val a' c') ∧ OwnI w' w.heap.size a' c' x.left ∧ Below w.heap.size w w' := by
  obtain ⟨k0, k1, k2, k3, k4, k5, k6⟩ := hat
  have hne : ¬ cb = w.heap.size := by omega
  have hne' : ¬ w.heap.size = cb := by omega
  go_enter Try.func130, Try.ntmps130
  go_wp2_with fail
  go_region_held3 (fun w' => w'.cell? ⟨cb, co, none⟩ = some (.slice a x.left.length c) ∧ w'.cell? ⟨cb, co + 1, none⟩ = some (.int .i64 x.inc) ∧ w'.cell? ⟨cb, co + 2, none⟩ = some (.int .i64 x.delay) ∧ w'.cell? ⟨cb, co + 3, none⟩ = some (.int .i64 x.player) ∧ w'.cell? ⟨cb, co + 4, none⟩ = some (.int .i64 x.since) ∧ w'.cell? ⟨cb, co + 5, none⟩ = some (.bool x.running) ∧ w'.cell? ⟨cb, co + 6, none⟩ = some (.bool x.fallen))
    (first | (with_reducible exact hS) | (refine ⟨?_, ?_, ?_, ?_, ?_, ?_, ?_⟩ <;> simp [go_sem, hne, hne', hS.1, hS.2.1, hS.2.2.1, hS.2.2.2.1, hS.2.2.2.2.1, hS.2.2.2.2.2.1, hS.2.2.2.2.2.2]) | go_keep)
    (first
      | (go_at_call 178; refine (l00Own_c a c x.left _ ((h.below (below_alloc1 _ _) (Nat.le_refl _)).drew) hm).mono ?_; rintro e w1 ⟨a', c', rfl, hown, hb1⟩; have hS := (show w1.cell? ⟨cb, co, none⟩ = some (.slice a x.left.length c) ∧ w1.cell? ⟨cb, co + 1, none⟩ = some (.int .i64 x.inc) ∧ w1.cell? ⟨cb, co + 2, none⟩ = some (.int .i64 x.delay) ∧ w1.cell? ⟨cb, co + 3, none⟩ = some (.int .i64 x.player) ∧ w1.cell? ⟨cb, co + 4, none⟩ = some (.int .i64 x.since) ∧ w1.cell? ⟨cb, co + 5, none⟩ = some (.bool x.running) ∧ w1.cell? ⟨cb, co + 6, none⟩ = some (.bool x.fallen) from by rw [(bcell hb1).1 _ _ (by simp; omega), (bcell hb1).1 _ _ (by simp; omega), (bcell hb1).1 _ _ (by simp; omega), (bcell hb1).1 _ _ (by simp; omega), (bcell hb1).1 _ _ (by simp; omega), (bcell hb1).1 _ _ (by simp; omega), (bcell hb1).1 _ _ (by simp; omega)]; simp [go_sem, hlt, k0, k1, k2, k3, k4, k5, k6]); obtain ⟨hc1, hf1⟩ := bcell hb1; have z0 := hc1 w.heap.size 0 (by simp); have z1 := hc1 w.heap.size 1 (by simp); have z2 := hc1 w.heap.size 2 (by simp); have z3 := hc1 w.heap.size 3 (by simp); have z4 := hc1 w.heap.size 4 (by simp); have z5 := hc1 w.heap.size 5 (by simp); have z6 := hc1 w.heap.size 6 (by simp); have zf := fun o => hf1 w.heap.size o (by simp); simp [go_sem] at z0 z1 z2 z3 z4 z5 z6 zf; clear hc1 hf1; have hz1 : w.heap.size < w1.heap.size := World.block_lt_of_cell? w1 _ z0))
  have hbw1 : Below w.heap.size w w1 := below_next ((below_alloc1 _ _).drew) hb1
  have HO := Lib.hid hown
  clear hown hb1 hS
  go_wp2
  refine bodyPost_ret (v := x.val a' c') (by simp [results, Try.results130, go_sem, z0, z1, z2, z3, z4, z5, z6, Ck.val, Ck.cells]) rfl ⟨_, _, rfl, ?_, ?_⟩
  · have k0 := HO.out
    simp only [World.size_alloc, World.size_drew] at k0
    refine ownsRow_le (base := w.heap.size + 1) ?_ (by omega)
    repeat (first | (with_reducible exact k0) | ((with_reducible refine ownsRow_setCell_below ?_ ?_ _); rotate_left; (simp <;> omega)))
  · repeat (first | (with_reducible exact hbw1) | ((with_reducible refine Below.setCell ?_ ?_ _); rotate_left; (simp <;> omega)))

set_option maxHeartbeats 1000000 in
theorem l23Code_c (cb co : Nat) (x : Ck) (a : Option Addr) (c : Nat) (now : Int) (run : Bool) (w : World) (hat : Ck.At w cb co x a c) (h : Ints w a x.left) (hm : x.left.length ≤ maxLen) :
    Calls Try.prog 118 #[.pointer (some ⟨cb, co, none⟩), .int .i64 now, .bool run] w fun e w' => e = .returned (.int .i64 (x.code now run)) ∧ ∃ m, w' = w.drewN m := by
  have hat' := hat
  obtain ⟨k0, k1, k2, k3, k4, k5, k6⟩ := hat
  go_enter Try.func118, Try.ntmps118
  go_wp2_with fail
  refine (l23Ok_c cb co x a c _ hat' h hm).mono ?_
  rintro e w1 ⟨rfl, m, rfl⟩
  cases hok : x.ok
  · go_wp2
    go_ret
    exact ⟨ret_int (by simp [Ck.code, hok]), _, rfl⟩
  · cases hnow : inB now x.since 36000000
    · go_wp2_with (go_at_call 104; refine (l00In_c _ _ _ _).mono ?_; rintro e w' ⟨rfl, rfl⟩)
      go_ret
      exact ⟨ret_int (by simp [Ck.code, hok, hnow]), _, rfl⟩
    · obtain ⟨xl, xi, xd, xp, xs, xr, xf⟩ := x
      have HC := Lib.hid (show Ck.code ⟨xl, xi, xd, xp, xs, xr, xf⟩ now run = if (xr != run) || xf then 6 else 0 by simp only [Ck.code]; rw [hok]; simp at hnow; simp [hnow])
      cases xr <;> cases run <;> cases xf
      all_goals
        go_wp2_with (go_at_call 104; refine (l00In_c _ _ _ _).mono ?_; rintro e w' ⟨rfl, rfl⟩)
        go_ret
        exact ⟨ret_int (by rw [HC.out]; rfl), _, rfl⟩

end Go.Proofs.Ytbjdfgfebepacaa
