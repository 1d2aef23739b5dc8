/- Can: whether there is a legal move: both functions. Each contract holds for every argument, under the premises that it states. -/
import Derived.Test.YtmadcifcbckcnaaSRes
import Derived.Deep.RegionHeld3
namespace Go.Proofs.Ytmadcifcbckcnaa
set_option linter.unusedSimpArgs false
set_option linter.unusedVariables false
set_option linter.unnecessarySimpa false
open Go.RowKit Go.ChangeShapes Go.WideShapes Go.ChangeAt Go.Joins

def canP (r : R) (p : P) : Bool := p.ok r && decide (0 < (allP r p).length)
set_option maxRecDepth 100000 in
set_option maxHeartbeats 8000000 in
theorem iCanMove_c (r : R) (p : P) (pa sa : Option Addr) (pc sc : Nat) (w : World) (h : PRow w p pa sa) (m1 : p.pits.length ≤ 16777216) (m2 : p.stores.length ≤ 16777216) (hc : p.pits.length ≤ pc) (hcm : pc ≤ maxLen) :
    Calls Try.prog 51 #[r.val, p.val pa pc sa sc] w fun e w' => e = .returned (.bool (canP r p)) ∧ Below w.heap.size w w' := by
  have F0 := ((Fr.start w).alloc r.cells 30).alloc (p.cells pa pc sa sc) 32
  have HV := fun W (H : PRow W p pa sa) => ValidPosition_c r p pa sa pc sc W H m1 m2
  cases hok : p.ok r
  · simp only [hok] at HV
    have HV := Lib.hid HV
    have HO := Lib.hid hok
    clear hok
    go_enter Try.func51, Try.ntmps51
    go_wp2_with fail
    refine (HV.out _ (h.below F0.below (Nat.le_refl _))).mono ?_
    rintro e w1 ⟨rfl, hb1⟩
    have F1 := F0.step hb1
    clear hb1 F0
    go_wp2
    go_ret
    exact ⟨by unfold canP; rw [HO.out]; rfl, F1.below⟩
  · simp only [hok] at HV
    have HV := Lib.hid HV
    have HO := Lib.hid hok
    have HR := Lib.hid (fun W (H : PRow W p pa sa) => results_c r p hok pa sa pc sc W H m1 m2 hc hcm)
    clear hok
    go_enter Try.func51, Try.ntmps51
    go_wp2_with fail
    refine (HV.out _ (h.below F0.below (Nat.le_refl _))).mono ?_
    rintro e w1 ⟨rfl, hb1⟩
    have F1 := F0.step hb1
    obtain ⟨c0, c1, c2, c3, c4, c5, c6, c7, c8⟩ := R.boxc (F1.at 1 rfl)
    obtain ⟨d0, d1, d2⟩ := P.boxc (F1.at 0 rfl)
    simp only [World.size_alloc] at d0 d1 d2
    clear hb1 F0
    go_wp2_with fail
    refine (HR.out _ (h.below F1.below (Nat.le_refl _))).mono ?_
    rintro e w2 ⟨l, ad, c, hl, rfl, ho, hb2⟩
    have F2 := F1.step hb2
    have HL := Lib.hid hl
    clear hb2 hl ho F1 c0 c1 c2 c3 c4 c5 c6 c7 c8 d0 d1 d2
    go_wp2
    go_ret
    refine ⟨ret_bool ?_, F2.below⟩
    unfold canP
    rw [HO.out, ← HL.out, List.length_map]
    cases l <;> simp

end Go.Proofs.Ytmadcifcbckcnaa
