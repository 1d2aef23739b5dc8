/- Own: a position of one's own: the reference's function. The contract holds for every argument, under the premises that it states. -/
import Derived.Test.YtenjffoboiohnaaDoorNew
import Derived.Test.YtenjffoboiohnaaDoorHeld
import Derived.Test.YtenjffoboiohnaaDoorCore1
namespace Go.Proofs.YtenjffoboiohnaaDoor
set_option linter.unusedSimpArgs false
set_option linter.unusedVariables false
set_option linter.unnecessarySimpa false
open Go.RowKit Go.ChangeShapes Go.WideShapes Go.ChangeAt Go.Joins


/-! ### PosS: whether two positions are equal: both sides' functions. Each contract holds for every argument, under the premises that it states. -/
set_option maxRecDepth 100000 in
set_option maxHeartbeats 1000000 in
theorem l04Same_c (b c o p : Nat) (x y : P) (pa sa qa ta : Option Addr) (pc sc qc tc : Nat) (w : World) (hb : P.At w b o x pa pc sa sc) (hc : P.At w c p y qa qc ta tc) (hx : PRow w x pa sa) (hy : PRow w y qa ta) (m1 : x.pits.length ≤ maxLen) (m2 : x.stores.length ≤ maxLen) (m3 : y.pits.length ≤ maxLen) (m4 : y.stores.length ≤ maxLen) :
    Calls Tryd.prog 30 #[.pointer (some ⟨b, o, none⟩), .pointer (some ⟨c, p, none⟩)] w fun e w' => e = .returned (.bool (decide (x = y))) ∧ ∃ m, w' = w.drewN m := by
  obtain ⟨xp, xs, xl⟩ := x
  obtain ⟨yp, ys, yl⟩ := y
  obtain ⟨hx1, hx2⟩ := hx
  obtain ⟨hy1, hy2⟩ := hy
  obtain ⟨b0, b1, b2⟩ := hb
  obtain ⟨c0, c1, c2⟩ := hc
  dsimp only at hx1 hx2 hy1 hy2 b0 b1 b2 c0 c1 c2 m1 m2 m3 m4
  have X1 : ∀ n, Ints (w.drewN n) pa xp := fun n => hx1
  have X2 : ∀ n, Ints (w.drewN n) sa xs := fun n => hx2
  have Y1 : ∀ n, Ints (w.drewN n) qa yp := fun n => hy1
  have Y2 : ∀ n, Ints (w.drewN n) ta ys := fun n => hy2
  clear hx1 hx2 hy1 hy2
  have Q1 : ∀ n, Calls Tryd.prog 46 #[.slice pa xp.length pc, .slice qa yp.length qc] (w.drewN n) fun e w' => e = .returned (.bool (decide (xp = yp))) ∧ ∃ m, w' = (w.drewN n).drewN m := fun n => l00Same_c _ _ _ _ _ _ _ (X1 n) (Y1 n) m1 m3
  have Q2 : ∀ n, Calls Tryd.prog 46 #[.slice sa xs.length sc, .slice ta ys.length tc] (w.drewN n) fun e w' => e = .returned (.bool (decide (xs = ys))) ∧ ∃ m, w' = (w.drewN n).drewN m := fun n => l00Same_c _ _ _ _ _ _ _ (X2 n) (Y2 n) m2 m4
  have HE : Hid (decide ((⟨xp, xs, xl⟩ : P) = ⟨yp, ys, yl⟩) = (decide (xp = yp) && (decide (xs = ys) && (xl == yl)))) := by
    unfold Hid
    by_cases e1 : xp = yp <;> by_cases e2 : xs = ys <;> by_cases e3 : xl = yl <;> simp [e1, e2, e3]
  cases hd : decide (xp = yp) <;> cases hd2 : decide (xs = ys)
  all_goals (rw [hd] at Q1; rw [hd2] at Q2; rw [hd, hd2] at HE; rw [HE.out]; clear hd hd2 HE X1 X2 Y1 Y2 m1 m2 m3 m4)
  all_goals (have Q1 := Lib.hid Q1; have Q2 := Lib.hid Q2)
  all_goals
    go_enter Tryd.func30, Tryd.ntmps30
    go_wp2
    go_quiet ((go_at_call 46; (first | (with_reducible exact Calls.quiet_of (Q1.out _)) | (with_reducible exact Calls.quiet_of (Q2.out _)))))
    go_wp2
    go_ret
    exact ⟨by simp, _, rfl⟩


end Go.Proofs.YtenjffoboiohnaaDoor
