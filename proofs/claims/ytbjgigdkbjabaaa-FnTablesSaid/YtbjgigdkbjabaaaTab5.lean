/- Tab5: which of two rows is better: both sides. Each contract holds for every argument, under the premises that it states. -/
import Derived.Test.YtbjgigdkbjabaaaTab4
import Derived.Deep.CutBlock
namespace Go.Proofs.Ytbjgigdkbjabaaa
set_option linter.unusedSimpArgs false
set_option linter.unusedVariables false
set_option linter.unnecessarySimpa false
open Go.RowKit Go.ChangeShapes Go.WideShapes Go.ChangeAt Go.Joins

/-! ### in plain terms -/
def cmpR (x y : Rw) : Int :=
  if x.points ≠ y.points then x.points - y.points else if x.against ≠ y.against then x.against - y.against else if x.strength ≠ y.strength then x.strength - y.strength else x.wins - y.wins
def betterR (x y : Rw) : Bool := decide (0 < cmpR x y)
/-- rows whose numbers are small -/
structure Rw.Sm (x : Rw) : Prop where
  p : 0 ≤ x.points ∧ x.points ≤ 1000000
  w : 0 ≤ x.wins ∧ x.wins ≤ 1000000
  g : 0 ≤ x.games ∧ x.games ≤ 1000000
  a : 0 ≤ x.against ∧ x.against ≤ 1000000
  s : 0 ≤ x.strength ∧ x.strength ≤ 1000000

set_option maxHeartbeats 4000000 in
theorem better_c (x y : Rw) (w : World) : Calls Try.prog 94 #[x.val, y.val] w fun e w' => e = .returned (.bool (betterR x y)) ∧ Below w.heap.size w w' := by
  obtain ⟨xi, xp, xw, xg, xa, xs⟩ := x
  obtain ⟨yi, yp, yw, yg, ya, ys⟩ := y
  have HB := Lib.hid (below_alloc2 w (.cells #[.int .i64 xi, .int .i64 xp, .int .i64 xw, .int .i64 xg, .int .i64 xa, .int .i64 xs] 84) (.cells #[.int .i64 yi, .int .i64 yp, .int .i64 yw, .int .i64 yg, .int .i64 ya, .int .i64 ys] 84))
  by_cases h1 : xp = yp
  · by_cases h2 : xa = ya
    · by_cases h3 : xs = ys
      · have HE : Hid (betterR ⟨xi, xp, xw, xg, xa, xs⟩ ⟨yi, yp, yw, yg, ya, ys⟩ = decide (yw < xw)) := by unfold Hid; simp [betterR, cmpR, h1, h2, h3] <;> omega
        subst h1 h2 h3
        go_enter Try.func94, Try.ntmps94
        go_wp2
        go_ret
        exact ⟨by rw [HE.out]; rfl, HB.out⟩
      · have HE : Hid (betterR ⟨xi, xp, xw, xg, xa, xs⟩ ⟨yi, yp, yw, yg, ya, ys⟩ = decide (ys < xs)) := by unfold Hid; simp [betterR, cmpR, h1, h2, h3] <;> omega
        have n3 : (xs != ys) = true := by simpa using h3
        subst h1 h2
        clear h3
        go_enter Try.func94, Try.ntmps94
        go_wp2
        go_ret
        exact ⟨by rw [HE.out]; rfl, HB.out⟩
    · have HE : Hid (betterR ⟨xi, xp, xw, xg, xa, xs⟩ ⟨yi, yp, yw, yg, ya, ys⟩ = decide (ya < xa)) := by unfold Hid; simp [betterR, cmpR, h1, h2] <;> omega
      have n2 : (xa != ya) = true := by simpa using h2
      subst h1
      clear h2
      go_enter Try.func94, Try.ntmps94
      go_wp2
      go_ret
      exact ⟨by rw [HE.out]; rfl, HB.out⟩
  · have HE : Hid (betterR ⟨xi, xp, xw, xg, xa, xs⟩ ⟨yi, yp, yw, yg, ya, ys⟩ = decide (yp < xp)) := by unfold Hid; simp [betterR, cmpR, h1] <;> omega
    have n1 : (xp != yp) = true := by simpa using h1
    clear h1
    go_enter Try.func94, Try.ntmps94
    go_wp2
    go_ret
    exact ⟨by rw [HE.out]; rfl, HB.out⟩

set_option maxRecDepth 100000 in
set_option maxHeartbeats 8000000 in
theorem l26Compare_c (g h j k : Nat) (x y : Rw) (w : World) (c1 : w.cell? ⟨g, j + 1, none⟩ = some (.int .i64 x.points)) (c2 : w.cell? ⟨g, j + 2, none⟩ = some (.int .i64 x.wins)) (c4 : w.cell? ⟨g, j + 4, none⟩ = some (.int .i64 x.against)) (c5 : w.cell? ⟨g, j + 5, none⟩ = some (.int .i64 x.strength))
    (d1 : w.cell? ⟨h, k + 1, none⟩ = some (.int .i64 y.points)) (d2 : w.cell? ⟨h, k + 2, none⟩ = some (.int .i64 y.wins)) (d4 : w.cell? ⟨h, k + 4, none⟩ = some (.int .i64 y.against)) (d5 : w.cell? ⟨h, k + 5, none⟩ = some (.int .i64 y.strength)) (hx : x.Sm) (hy : y.Sm) :
    Calls Try.prog 136 #[.pointer (some ⟨g, j, none⟩), .pointer (some ⟨h, k, none⟩)] w fun e w' => e = .returned (.int .i64 (cmpR x y)) ∧ ∃ m, w' = w.drewN m := by
  obtain ⟨xi, xp, xw, xg, xa, xs⟩ := x
  obtain ⟨yi, yp, yw, yg, ya, ys⟩ := y
  have a1 : IntKind.i64.wrap (xp - yp) = xp - yp := IntWalk.i64_in _ (by have := hx.p; have := hy.p; simp only at *; omega)
  have a2 : IntKind.i64.wrap (xa - ya) = xa - ya := IntWalk.i64_in _ (by have := hx.a; have := hy.a; simp only at *; omega)
  have a3 : IntKind.i64.wrap (xs - ys) = xs - ys := IntWalk.i64_in _ (by have := hx.s; have := hy.s; simp only at *; omega)
  have a4 : IntKind.i64.wrap (xw - yw) = xw - yw := IntWalk.i64_in _ (by have := hx.w; have := hy.w; simp only at *; omega)
  dsimp only at c1 c2 c4 c5 d1 d2 d4 d5
  clear hx hy
  by_cases h1 : xp = yp
  · by_cases h2 : xa = ya
    · by_cases h3 : xs = ys
      · have HE : Hid (cmpR ⟨xi, xp, xw, xg, xa, xs⟩ ⟨yi, yp, yw, yg, ya, ys⟩ = xw - yw) := by unfold Hid; simp [cmpR, h1, h2, h3]
        subst h1 h2 h3
        go_enter Try.func136, Try.ntmps136
        go_wp2_with fail
        repeat (go_region; (go_wp2_with fail))
        go_ret
        exact ⟨by rw [HE.out]; rfl, 4, rfl⟩
      · have HE : Hid (cmpR ⟨xi, xp, xw, xg, xa, xs⟩ ⟨yi, yp, yw, yg, ya, ys⟩ = xs - ys) := by unfold Hid; simp [cmpR, h1, h2, h3]
        have n3 : (xs != ys) = true := by simpa using h3
        subst h1 h2
        clear h3
        go_enter Try.func136, Try.ntmps136
        go_wp2_with fail
        repeat (go_region; (go_wp2_with fail))
        go_ret
        exact ⟨by rw [HE.out]; rfl, 4, rfl⟩
    · have HE : Hid (cmpR ⟨xi, xp, xw, xg, xa, xs⟩ ⟨yi, yp, yw, yg, ya, ys⟩ = xa - ya) := by unfold Hid; simp [cmpR, h1, h2]
      have n2 : (xa != ya) = true := by simpa using h2
      subst h1
      clear h2
      go_enter Try.func136, Try.ntmps136
      go_wp2_with fail
      repeat (go_region; (go_wp2_with fail))
      go_ret
      exact ⟨by rw [HE.out]; rfl, 3, rfl⟩
  · have HE : Hid (cmpR ⟨xi, xp, xw, xg, xa, xs⟩ ⟨yi, yp, yw, yg, ya, ys⟩ = xp - yp) := by unfold Hid; simp [cmpR, h1]
    have n1 : (xp != yp) = true := by simpa using h1
    clear h1
    go_enter Try.func136, Try.ntmps136
    go_wp2_with fail
    repeat (go_region; (go_wp2_with fail))
    go_ret
    exact ⟨by rw [HE.out]; rfl, 2, rfl⟩

end Go.Proofs.Ytbjgigdkbjabaaa
