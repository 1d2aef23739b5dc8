/- SCode: the code of a move: the reference's function. The contract holds for every argument, under the premises that it states. -/
import Derived.Test.YteabheocbkcmnaaSMov
namespace Go.Proofs.Yteabheocbkcmnaa
set_option linter.unusedSimpArgs false
set_option linter.unusedVariables false
set_option linter.unnecessarySimpa false
open Go.RowKit Go.ChangeShapes Go.WideShapes Go.ChangeAt Go.Joins

theorem P.At.draw {w : World} {b o : Nat} {p : P} {pa sa : Option Addr} {pc sc : Nat} (h : P.At w b o p pa pc sa sc) (n : Nat) : P.At (w.drewN n) b o p pa pc sa sc := ⟨h.c0, h.c1, h.c2⟩
set_option maxRecDepth 100000 in
set_option maxHeartbeats 4000000 in
theorem l05Code_c (rb ro pb po : Nat) (r : R) (p : P) (move : Int) (pa sa : Option Addr) (pc sc : Nat) (w : World) (hr : R.At w rb ro r) (hp : P.At w pb po p pa pc sa sc) (h : PRow w p pa sa) (m1 : p.pits.length ≤ 16777216) (m2 : p.stores.length ≤ 16777216) :
    Calls Try.prog 162 #[.pointer (some ⟨rb, ro, none⟩), .pointer (some ⟨pb, po, none⟩), .int .i64 move] w fun e w' => e = .returned (.int .i64 (codeP r p move)) ∧ ∃ m, w' = w.drewN m := by
  have HR := Lib.hid hr
  have HP := Lib.hid hp
  have c0 := hr.c0
  obtain ⟨d0, d1, d2⟩ := hp
  clear hr
  cases hok : p.ok r
  · have HOK := Lib.hid hok
    go_enter Try.func162, Try.ntmps162
    go_wp2_with fail
    refine (l04Ok_c rb ro pb po r p pa sa pc sc _ HR.out HP.out h m1 m2).mono ?_
    rintro e w1 ⟨rfl, m, rfl⟩
    rw [hok]
    clear hok
    go_wp2
    go_ret
    exact ⟨by simp [codeP, HOK.out], m, rfl⟩
  obtain ⟨hbd, ⟨pn, hpn, hpn1⟩, t, hB, ht0, ht1⟩ := P.ok_parts hok
  have hlo := hbd.lo
  have hhi := hbd.hi
  obtain ⟨b, o, rfl, hbs, hcs⟩ := Ints.open h.pits (by have := hB.lp; omega)
  have HOK := Lib.hid hok
  cases hmv : inB move 0 (r.pits - 1)
  · have HMV := Lib.hid hmv
    go_enter Try.func162, Try.ntmps162
    go_wp2_with fail
    refine (l04Ok_c rb ro pb po r p _ sa pc sc _ HR.out HP.out h m1 m2).mono ?_
    rintro e w1 ⟨rfl, m, rfl⟩
    rw [hok]
    clear hok
    go_wp2_with (go_at_call 94; refine (l00In_c _ _ _ _).mono ?_; rintro e w' ⟨rfl, rfl⟩; rw [HMV.out])
    go_ret
    exact ⟨by simp [codeP, HOK.out, HMV.out], _, rfl⟩
  have mv := inB_iff.1 hmv
  obtain ⟨fn, hfn, hfl⟩ := from_ok hok mv
  have hcf := hcs fn hfl
  have HFN : Hid (codeP r p move = if p.pits[fn] = 0 then 6 else 0) := by
    simp only [Hid, codeP, hok, hmv, hfn]
    simp [hfl]
  have hm0 : 0 ≤ p.player * r.pits := Int.mul_nonneg (by omega) (by omega)
  have hm8 : p.player * r.pits ≤ 8 := by
    have := Int.mul_le_mul (a := p.player) (b := r.pits) (c := 1) (d := 8) (by omega) hhi (by omega) (by omega)
    omega
  obtain ⟨v, hv⟩ : ∃ v, v = p.pits[fn] := ⟨_, rfl⟩
  rw [← hv] at hcf HFN
  clear hv
  obtain ⟨mv0, mv1⟩ := mv
  clear hpn hcs
  go_enter Try.func162, Try.ntmps162
  go_wp2_with fail
  refine (l04Ok_c rb ro pb po r p _ sa pc sc _ HR.out HP.out h m1 m2).mono ?_
  rintro e w1 ⟨rfl, m, hw1⟩
  rw [hok]
  clear hok
  have hxc : ∀ b o, w1.cell? ⟨b, o, none⟩ = w.cell? ⟨b, o, none⟩ := fun b o => by rw [hw1]; simp
  rw [← hxc] at c0 d0 d1 d2 hcf
  have HW1 := Lib.hid hw1
  clear hw1 hxc
  go_wp2_with fail
  refine (l00In_c _ _ _ _).mono ?_
  rintro e w' ⟨rfl, rfl⟩
  rw [hmv]
  by_cases hz : v = 0
  · rw [if_pos hz] at HFN
    have hz' : (v == 0) = true := by simpa using hz
    clear hz
    go_wp2_with fail
    go_region
    go_wp2
    go_ret
    exact ⟨by rw [HFN.out]; rfl, by rw [HW1.out]; exact ⟨_, World.drewN_drewN _ _ _⟩⟩
  · rw [if_neg hz] at HFN
    have hz' : (v == 0) = false := by simpa using hz
    clear hz
    go_wp2_with fail
    go_region
    go_wp2
    go_ret
    exact ⟨by rw [HFN.out]; rfl, by rw [HW1.out]; exact ⟨_, World.drewN_drewN _ _ _⟩⟩

end Go.Proofs.Yteabheocbkcmnaa
