/- Srch2: the code of a search, and the searches for a size, a value and a value within bounds: the program's functions. Each contract holds for every argument, under the premises that it states. -/
import Derived.Test.YtcgbbjlcijhcnaaSrch1
namespace Go.Proofs.Ytcgbbjlcijhcnaa
set_option linter.unusedSimpArgs false
set_option linter.unusedVariables false
set_option linter.unnecessarySimpa false
open Go.RowKit Go.ChangeShapes Go.WideShapes Go.ChangeAt Go.Joins

theorem srchC_zero {r : R} {p : P} {d : Int} (h : srchC r p d = 0) : p.ok r = true ∧ ∃ D : Nat, d = (D : Int) ∧ D ≤ 8 ∧ sizeT r D p ≤ 3000 := by
  unfold srchC at h
  split at h
  · rename_i h1
    split at h
    · rename_i h2
      split at h
      · simp at h
      · rename_i h3
        exact ⟨h1, d.toNat, by omega, by omega, by omega⟩
    · simp at h
  · simp at h

set_option maxRecDepth 100000 in
set_option maxHeartbeats 8000000 in
theorem searchCode_c (r : R) (p : P) (d : Int) (pa sa : Option Addr) (pc sc : Nat) (w : World) (h : PRow w p pa sa) (m1 : p.pits.length ≤ 16777216) (m2 : p.stores.length ≤ 16777216) (hc : p.pits.length ≤ pc) (hcm : pc ≤ maxLen) :
    Calls Try.prog 63 #[r.val, p.val pa pc sa sc, .int .i64 d] w fun e w' => e = .returned (.int .i64 (srchC r p d)) ∧ Below w.heap.size w w' := by
  have F0 := ((Fr.start w).alloc r.cells 31).alloc (p.cells pa pc sa sc) 28
  have HV := fun W (H : PRow W p pa sa) => ValidPosition_c r p pa sa pc sc W H m1 m2
  have HBT := fun W => between_c d 0 8 W
  obtain ⟨y, hy⟩ : ∃ y, y = srchC r p d := ⟨_, rfl⟩
  rw [← hy]
  cases hok : p.ok r
  · simp only [hok] at HV
    have HV := Lib.hid HV
    have HE : Hid (y = 1) := by unfold Hid; rw [hy, srchC, hok]; rfl
    clear hok hy
    go_enter Try.func63, Try.ntmps63
    go_wp2_with fail
    refine (HV.out _ (h.below F0.below (Nat.le_refl _))).mono ?_
    rintro e w1 ⟨rfl, hb1⟩
    have F1 := F0.step hb1
    clear hb1 F0
    go_wp2
    go_ret
    rw [HE.out]
    exact ⟨rfl, F1.below⟩
  simp only [hok] at HV
  have HV := Lib.hid HV
  have HE : Hid (y = if 0 ≤ d ∧ d ≤ 8 then (if sizeT r d.toNat p > 3000 then 5 else 0) else 2) := by unfold Hid; rw [hy, srchC, hok]; rfl
  cases hb : inB d 0 8
  · have hn : ¬ (0 ≤ d ∧ d ≤ 8) := fun e => by rw [inB_iff.2 e] at hb; cases hb
    rw [hb] at HBT
    have HBT := Lib.hid HBT
    have HE2 : Hid (y = 2) := HE.out.trans (if_neg hn)
    clear hok hy hb hn
    go_enter Try.func63, Try.ntmps63
    go_wp2_with fail
    refine (HV.out _ (h.below F0.below (Nat.le_refl _))).mono ?_
    rintro e w1 ⟨rfl, hb1⟩
    have F1 := F0.step hb1
    clear hb1 F0
    go_wp2_with fail
    refine (HBT.out _).mono ?_
    rintro e w2 ⟨rfl, rfl⟩
    go_wp2
    go_ret
    rw [HE2.out]
    exact ⟨rfl, F1.below⟩
  obtain ⟨d0, d8⟩ := inB_iff.1 hb
  rw [hb] at HBT
  have HBT := Lib.hid HBT
  obtain ⟨D, rfl⟩ : ∃ D : Nat, d = (D : Int) := ⟨d.toNat, by omega⟩
  have HS := fun W (H : PRow W p pa sa) => sizeUpTo_c r D (by omega) p hok pa sa pc sc W H hc hcm
  have hub := sizeU_bd r D p
  obtain ⟨s1, s2⟩ := sizeU_eq r D p
  have hst : (sizeU r D p > 3000 ↔ sizeT r D p > 3000) := by
    constructor
    · intro h1
      rcases Nat.lt_or_ge 3000 (sizeT r D p) with h2 | h2
      · exact h2
      · have := s1 h2; omega
    · intro h1; exact s2 h1
  obtain ⟨u, hu⟩ : ∃ u, u = sizeU r D p := ⟨_, rfl⟩
  rw [← hu] at HS hub hst
  have HS := Lib.hid HS
  have HE2 : Hid (y = if u > 3000 then 5 else 0) := by
    unfold Hid
    rw [HE.out, if_pos ⟨d0, d8⟩, Int.toNat_natCast]
    by_cases h1 : u > 3000
    · rw [if_pos h1, if_pos (hst.1 h1)]
    · rw [if_neg h1, if_neg (fun h2 => h1 (hst.2 h2))]
  obtain ⟨hub0, hub1⟩ := hub
  clear hok hy hb s1 s2 hst hu HE
  go_enter Try.func63, Try.ntmps63
  go_wp2_with fail
  refine (HV.out _ (h.below F0.below (Nat.le_refl _))).mono ?_
  rintro e w1 ⟨rfl, hb1⟩
  have F1 := F0.step hb1
  obtain ⟨c0, c1, c2, c3, c4, c5, c6, c7, c8⟩ := R.boxc (F1.at 1 rfl)
  obtain ⟨e0, e1, e2⟩ := P.boxc (F1.at 0 rfl)
  have zA : w.heap.size < w1.heap.size := F1.le 1 rfl
  have zB : w.heap.size + 1 < w1.heap.size := by have := F1.le 0 rfl; simp at this; omega
  simp only [World.size_alloc] at e0 e1 e2
  clear hb1 F0
  go_wp2_with fail
  refine (HBT.out _).mono ?_
  rintro e w2 ⟨rfl, rfl⟩
  go_wp2_with fail
  refine (HS.out _ (h.below F1.below (Nat.le_refl _))).mono ?_
  rintro e w3 ⟨rfl, hb3⟩
  have F3 := F1.step hb3
  clear hb3 F1 c0 c1 c2 c3 c4 c5 c6 c7 c8 e0 e1 e2
  by_cases hu3 : u > 3000
  · have HE3 : Hid (y = 5) := HE2.out.trans (if_pos hu3)
    go_wp2
    go_ret
    rw [HE3.out]
    exact ⟨rfl, F3.below⟩
  · have HE3 : Hid (y = 0) := HE2.out.trans (if_neg hu3)
    go_wp2
    go_ret
    rw [HE3.out]
    exact ⟨rfl, F3.below⟩

set_option maxRecDepth 100000 in
theorem szOf_c (r : R) (p : P) (d : Int) (pa sa : Option Addr) (pc sc : Nat) (hz : srchC r p d = 0) (hc : p.pits.length ≤ pc) (hcm : pc ≤ maxLen) (W : World) (H : PRow W p pa sa) :
    Calls Try.prog 65 #[r.val, p.val pa pc sa sc, .int .i64 d] W fun e w' => e = .returned (.int .i64 (ssizeP r p d).1) ∧ Below W.heap.size W w' := by
  obtain ⟨hok, D, rfl, hD, hs⟩ := srchC_zero hz
  have h1 := sizeUpTo_c r D hD p hok pa sa pc sc W H hc hcm
  unfold ssizeP
  rw [if_pos hz, Int.toNat_natCast]
  first
  | exact h1
  | (rw [(sizeU_eq r D p).1 hs] at h1; exact h1)
set_option maxRecDepth 100000 in
set_option maxHeartbeats 8000000 in
theorem iSearchSize_c (r : R) (p : P) (d : Int) (pa sa : Option Addr) (pc sc : Nat) (w : World) (h : PRow w p pa sa) (m1 : p.pits.length ≤ 16777216) (m2 : p.stores.length ≤ 16777216) (hc : p.pits.length ≤ pc) (hcm : pc ≤ maxLen) :
    Calls Try.prog 31 #[r.val, p.val pa pc sa sc, .int .i64 d] w fun e w' => e = .returned (.tuple #[.int .i64 (ssizeP r p d).1, .int .i64 (ssizeP r p d).2]) ∧ Below w.heap.size w w' := by
  have F0 := ((Fr.start w).alloc r.cells 31).alloc (p.cells pa pc sa sc) 28
  have HC := fun W (H : PRow W p pa sa) => searchCode_c r p d pa sa pc sc W H m1 m2 hc hcm
  obtain ⟨c, hcd⟩ : ∃ c, c = srchC r p d := ⟨_, rfl⟩
  rw [← hcd] at HC
  have HC := Lib.hid HC
  obtain ⟨y, hy⟩ : ∃ y, y = ssizeP r p d := ⟨_, rfl⟩
  rw [← hy]
  by_cases hz : c = 0
  · have HS := fun W H => szOf_c r p d pa sa pc sc (by rw [← hcd]; exact hz) hc hcm W H
    have HY2 : Hid (y.2 = 0) := by unfold Hid; rw [hy, ssizeP, ← hcd, if_pos hz]
    rw [← hy] at HS
    have HS := Lib.hid HS
    have hz' : (c != 0) = false := by simpa using hz
    clear hcd hy hz
    go_enter Try.func31, Try.ntmps31
    go_wp2_with fail
    refine (HC.out _ (h.below F0.below (Nat.le_refl _))).mono ?_
    rintro e w1 ⟨rfl, hb1⟩
    have F1 := F0.step hb1
    obtain ⟨c0, c1, c2, c3, c4, c5, c6, c7, c8⟩ := R.boxc (F1.at 1 rfl)
    obtain ⟨e0, e1, e2⟩ := P.boxc (F1.at 0 rfl)
    have zA : w.heap.size < w1.heap.size := F1.le 1 rfl
    have zB : w.heap.size + 1 < w1.heap.size := by have := F1.le 0 rfl; simp at this; omega
    simp only [World.size_alloc] at e0 e1 e2
    clear hb1 F0
    go_wp2_with fail
    refine (HS.out _ (h.below F1.below (Nat.le_refl _))).mono ?_
    rintro e w3 ⟨rfl, hb3⟩
    have F3 := F1.step hb3
    clear hb3 F1 c0 c1 c2 c3 c4 c5 c6 c7 c8 e0 e1 e2
    go_wp2
    go_ret2
    rw [HY2.out]
    exact ⟨rfl, F3.below⟩
  · have HE : Hid (y = (0, c)) := by unfold Hid; rw [hy, ssizeP, ← hcd, if_neg hz]
    have hz' : (c != 0) = true := by simpa using hz
    clear hcd hy hz
    go_enter Try.func31, Try.ntmps31
    go_wp2_with fail
    refine (HC.out _ (h.below F0.below (Nat.le_refl _))).mono ?_
    rintro e w1 ⟨rfl, hb1⟩
    have F1 := F0.step hb1
    clear hb1 F0
    go_wp2
    go_ret2
    rw [HE.out]
    exact ⟨rfl, F1.below⟩
set_option maxRecDepth 100000 in
theorem vlOf_c (r : R) (p : P) (d : Int) (pa sa : Option Addr) (pc sc : Nat) (hz : srchC r p d = 0) (hc : p.pits.length ≤ pc) (hcm : pc ≤ maxLen) (W : World) (H : PRow W p pa sa) :
    Calls Try.prog 64 #[r.val, p.val pa pc sa sc, .int .i64 d] W fun e w' => e = .returned (.int .i64 (svalP r p d).1) ∧ Below W.heap.size W w' := by
  obtain ⟨hok, D, rfl, hD, hs⟩ := srchC_zero hz
  have h1 := value_c r D hD p hok pa sa pc sc W H hc hcm
  unfold svalP
  rw [if_pos hz, Int.toNat_natCast]
  first
  | exact h1
  | (rw [(sizeU_eq r D p).1 hs] at h1; exact h1)
set_option maxRecDepth 100000 in
set_option maxHeartbeats 8000000 in
theorem iSearchValue_c (r : R) (p : P) (d : Int) (pa sa : Option Addr) (pc sc : Nat) (w : World) (h : PRow w p pa sa) (m1 : p.pits.length ≤ 16777216) (m2 : p.stores.length ≤ 16777216) (hc : p.pits.length ≤ pc) (hcm : pc ≤ maxLen) :
    Calls Try.prog 29 #[r.val, p.val pa pc sa sc, .int .i64 d] w fun e w' => e = .returned (.tuple #[.int .i64 (svalP r p d).1, .int .i64 (svalP r p d).2]) ∧ Below w.heap.size w w' := by
  have F0 := ((Fr.start w).alloc r.cells 31).alloc (p.cells pa pc sa sc) 28
  have HC := fun W (H : PRow W p pa sa) => searchCode_c r p d pa sa pc sc W H m1 m2 hc hcm
  obtain ⟨c, hcd⟩ : ∃ c, c = srchC r p d := ⟨_, rfl⟩
  rw [← hcd] at HC
  have HC := Lib.hid HC
  obtain ⟨y, hy⟩ : ∃ y, y = svalP r p d := ⟨_, rfl⟩
  rw [← hy]
  by_cases hz : c = 0
  · have HS := fun W H => vlOf_c r p d pa sa pc sc (by rw [← hcd]; exact hz) hc hcm W H
    have HY2 : Hid (y.2 = 0) := by unfold Hid; rw [hy, svalP, ← hcd, if_pos hz]
    rw [← hy] at HS
    have HS := Lib.hid HS
    have hz' : (c != 0) = false := by simpa using hz
    clear hcd hy hz
    go_enter Try.func29, Try.ntmps29
    go_wp2_with fail
    refine (HC.out _ (h.below F0.below (Nat.le_refl _))).mono ?_
    rintro e w1 ⟨rfl, hb1⟩
    have F1 := F0.step hb1
    obtain ⟨c0, c1, c2, c3, c4, c5, c6, c7, c8⟩ := R.boxc (F1.at 1 rfl)
    obtain ⟨e0, e1, e2⟩ := P.boxc (F1.at 0 rfl)
    have zA : w.heap.size < w1.heap.size := F1.le 1 rfl
    have zB : w.heap.size + 1 < w1.heap.size := by have := F1.le 0 rfl; simp at this; omega
    simp only [World.size_alloc] at e0 e1 e2
    clear hb1 F0
    go_wp2_with fail
    refine (HS.out _ (h.below F1.below (Nat.le_refl _))).mono ?_
    rintro e w3 ⟨rfl, hb3⟩
    have F3 := F1.step hb3
    clear hb3 F1 c0 c1 c2 c3 c4 c5 c6 c7 c8 e0 e1 e2
    go_wp2
    go_ret2
    rw [HY2.out]
    exact ⟨rfl, F3.below⟩
  · have HE : Hid (y = (0, c)) := by unfold Hid; rw [hy, svalP, ← hcd, if_neg hz]
    have hz' : (c != 0) = true := by simpa using hz
    clear hcd hy hz
    go_enter Try.func29, Try.ntmps29
    go_wp2_with fail
    refine (HC.out _ (h.below F0.below (Nat.le_refl _))).mono ?_
    rintro e w1 ⟨rfl, hb1⟩
    have F1 := F0.step hb1
    clear hb1 F0
    go_wp2
    go_ret2
    rw [HE.out]
    exact ⟨rfl, F1.below⟩

end Go.Proofs.Ytcgbbjlcijhcnaa
