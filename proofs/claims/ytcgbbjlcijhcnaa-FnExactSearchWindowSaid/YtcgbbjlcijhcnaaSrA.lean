/- SrA: the searches for a size, a value and a value within bounds: the reference's functions. Each contract holds for every argument, under the premises that it states. -/
import Derived.Test.YtcgbbjlcijhcnaaSrS
namespace Go.Proofs.Ytcgbbjlcijhcnaa
set_option linter.unusedSimpArgs false
set_option linter.unusedVariables false
set_option linter.unnecessarySimpa false
open Go.RowKit Go.ChangeShapes Go.WideShapes Go.ChangeAt Go.Joins

def preC (r : R) (p : P) (d : Int) : Int := if p.ok r = true then (if 0 ≤ d ∧ d ≤ 8 then 0 else 2) else 1
theorem preC_zero {r : R} {p : P} {d : Int} (h : preC r p d = 0) : p.ok r = true ∧ 0 ≤ d ∧ d ≤ 8 := by
  unfold preC at h
  split at h
  · rename_i h1
    split at h
    · rename_i h2; exact ⟨h1, h2⟩
    · simp at h
  · simp at h
theorem srchC_pre {r : R} {p : P} {d : Int} (h : ¬ preC r p d = 0) : srchC r p d = preC r p d := by
  unfold preC at h ⊢
  unfold srchC
  split
  · rename_i h1
    rw [if_pos h1] at h
    split
    · rename_i h2; rw [if_pos h2] at h; exact absurd rfl h
    · rfl
  · rfl
theorem prow_n {S : Nat} {w : World} {p : P} {pa sa : Option Addr} {r : R} (hok : p.ok r = true) (h : PRow w p pa sa) (hS : w.heap.size ≤ S) : RowN S w pa p.pits ∧ RowN S w sa p.stores := by
  obtain ⟨hbd, _, t, hB, _, _⟩ := P.ok_parts hok
  have := hbd.lo; have := hB.lp; have := hB.ls
  exact ⟨arg_rowN h.pits (by omega) hS, arg_rowN h.stores (by omega) hS⟩

set_option maxHeartbeats 4000000 in
theorem l15Code_c (rb ro pb po : Nat) (r : R) (p : P) (d : Int) (pa sa : Option Addr) (pc sc : Nat) (w : World) (hr : R.At w rb ro r) (hp : P.At w pb po p pa pc sa sc) (h : PRow w p pa sa) (m1 : p.pits.length ≤ 16777216) (m2 : p.stores.length ≤ 16777216) :
    Calls Try.prog 66 #[.pointer (some ⟨rb, ro, none⟩), .pointer (some ⟨pb, po, none⟩), .int .i64 d] w fun e w' => e = .returned (.int .i64 (preC r p d)) ∧ ∃ m, w' = w.drewN m := by
  have HV := l04Ok_c rb ro pb po r p pa sa pc sc w hr hp h m1 m2
  have HBT := fun W => l00In_c d 0 8 W
  obtain ⟨y, hy⟩ : ∃ y, y = preC r p d := ⟨_, rfl⟩
  rw [← hy]
  clear hr hp h
  cases hok : p.ok r
  · rw [hok] at HV
    have HV := Lib.hid HV
    have HE : Hid (y = 1) := by unfold Hid; rw [hy, preC, hok]; rfl
    clear hok hy
    go_enter Try.func66, Try.ntmps66
    go_wp2_with fail
    refine HV.out.mono ?_
    rintro e w1 ⟨rfl, m, rfl⟩
    go_wp2
    go_ret
    rw [HE.out]
    exact ⟨rfl, _, rfl⟩
  rw [hok] at HV
  have HV := Lib.hid HV
  cases hb : inB d 0 8
  · have hn : ¬ (0 ≤ d ∧ d ≤ 8) := fun e => by rw [inB_iff.2 e] at hb; cases hb
    have HE : Hid (y = 2) := by unfold Hid; rw [hy, preC, hok, if_pos rfl, if_neg hn]
    rw [hb] at HBT
    have HBT := Lib.hid HBT
    clear hok hy hb hn
    go_enter Try.func66, Try.ntmps66
    go_wp2_with fail
    refine HV.out.mono ?_
    rintro e w1 ⟨rfl, m, rfl⟩
    go_wp2_with fail
    refine (HBT.out _).mono ?_
    rintro e w2 ⟨rfl, rfl⟩
    go_wp2
    go_ret
    rw [HE.out]
    exact ⟨rfl, _, rfl⟩
  · have HE : Hid (y = 0) := by unfold Hid; rw [hy, preC, hok, if_pos rfl, if_pos (inB_iff.1 hb)]
    rw [hb] at HBT
    have HBT := Lib.hid HBT
    clear hok hy hb
    go_enter Try.func66, Try.ntmps66
    go_wp2_with fail
    refine HV.out.mono ?_
    rintro e w1 ⟨rfl, m, rfl⟩
    go_wp2_with fail
    refine (HBT.out _).mono ?_
    rintro e w2 ⟨rfl, rfl⟩
    go_wp2
    go_ret
    rw [HE.out]
    exact ⟨rfl, _, rfl⟩

set_option maxRecDepth 100000 in
set_option maxHeartbeats 8000000 in
theorem l15Ask_c (rb ro pb po : Nat) (r : R) (p : P) (d : Int) (pa sa : Option Addr) (pc sc : Nat) (w : World) (hr : R.At w rb ro r) (hp : P.At w pb po p pa pc sa sc) (h : PRow w p pa sa) (m1 : p.pits.length ≤ 16777216) (m2 : p.stores.length ≤ 16777216) :
    Calls Try.prog 62 #[.pointer (some ⟨rb, ro, none⟩), .pointer (some ⟨pb, po, none⟩), .int .i64 d] w fun e w' => e = .returned (.tuple #[.int .i64 (saskP r p d).1, .int .i64 (saskP r p d).2.1, .int .i64 (saskP r p d).2.2]) ∧ Below w.heap.size w w' := by
  have HC := l15Code_c rb ro pb po r p d pa sa pc sc w hr hp h m1 m2
  obtain ⟨y, hy⟩ : ∃ y, y = saskP r p d := ⟨_, rfl⟩
  rw [← hy]
  obtain ⟨c, hcd⟩ : ∃ c, c = preC r p d := ⟨_, rfl⟩
  rw [← hcd] at HC
  have HC := Lib.hid HC
  by_cases hz : c = 0
  case neg =>
    have hz' : (c != 0) = true := by simpa using hz
    have HE : Hid (y = (0, 0, c)) := by
      unfold Hid
      have h1 := srchC_pre (r := r) (p := p) (d := d) (by rw [← hcd]; exact hz)
      rw [← hcd] at h1
      rw [hy, saskP, h1, if_neg hz]
    clear hcd hy hz hr hp h
    go_enter Try.func62, Try.ntmps62
    go_wp2_with fail
    refine HC.out.mono ?_
    rintro e w1 ⟨rfl, m, rfl⟩
    go_wp2
    go_ret3
    rw [HE.out]
    exact ⟨rfl, below_draws _ _ _⟩
  obtain ⟨hok, hd0, hd8⟩ := preC_zero (by rw [← hcd]; exact hz)
  have hz' : (c != 0) = false := by simpa using hz
  obtain ⟨D, rfl⟩ : ∃ D : Nat, d = (D : Int) := ⟨d.toNat, by omega⟩
  have hbz := Bz_le D (by omega)
  have hrb : rb < w.heap.size := World.block_lt_of_cell? w _ hr.c0
  have hpb : pb < w.heap.size := World.block_lt_of_cell? w _ hp.c0
  have HSV : Hid (∀ (m : Nat) (W : World), Below w.heap.size w W → W.heap.size = w.heap.size + 1 → SrB W w.heap.size rb ro 0 → Calls Try.prog 96 #[.pointer (some ⟨w.heap.size, 0, none⟩), .pointer (some ⟨pb, po, none⟩), .int .i64 (D : Int)] W (SvPost W w.heap.size rb ro (vS r D p 0).1 (vS r D p 0).2)) := by
    intro m W hW hsz hS
    obtain ⟨n1, n2⟩ := prow_n hok h (Nat.le_refl _)
    exact sValue_c r D (by omega) p hok w.heap.size rb ro pb po pa sa pc sc W 0 hS (hr.below hW hrb) (by omega) (hp.below hW hpb) (by omega) (n1.below hW (Nat.le_refl _)) (n2.below hW (Nat.le_refl _)) (by omega) (by omega)
  have hvb := vS_bd r D p 0 hok (by omega)
  obtain ⟨v1, v2, v3⟩ := vS_eq r D p 0 (by omega)
  have HY : Hid (y = if (vS r D p 0).2 > 3000 then (0, 0, 5) else ((vS r D p 0).1, (vS r D p 0).2, 0)) := by
    unfold Hid
    have hs : srchC r p (D : Int) = if sizeT r D p > 3000 then 5 else 0 := by
      unfold srchC
      rw [if_pos hok, if_pos ⟨hd0, hd8⟩, Int.toNat_natCast]
    rw [hy, saskP, hs]
    by_cases hb : sizeT r D p > 3000
    · rw [if_pos hb, if_neg (by omega), if_pos (v2 (by omega))]
    · have h1 := v1 (by omega)
      rw [if_neg hb, if_pos rfl, h1, if_neg (by simp only; omega), Int.toNat_natCast]
      simp
  obtain ⟨v, hv⟩ : ∃ v, v = (vS r D p 0).1 := ⟨_, rfl⟩
  obtain ⟨n, hn⟩ : ∃ n, n = (vS r D p 0).2 := ⟨_, rfl⟩
  rw [← hv, ← hn] at HY HSV
  rw [← hn] at hvb
  obtain ⟨hb0, hb1, _, _⟩ := hvb
  clear hv hn v1 v2 v3 hcd hy hz hr hp h hok hrb hpb
  go_enter Try.func62, Try.ntmps62
  go_wp2_with fail
  refine HC.out.mono ?_
  rintro e w1 ⟨rfl, m, hm⟩
  have hz1 : w1.heap.size = w.heap.size := by rw [hm]; rfl
  have HB1 : Hid (Below w.heap.size w w1) := by unfold Hid; rw [hm]; exact below_draws _ _ _
  clear hm HC
  go_wp2_with fail
  refine (HSV.out 0 _ ?_ ?_ ?_).mono ?_
  rotate_left 3
  · rintro e w2 ⟨rfl, hB2, hC2⟩
    have HB2 : Hid (Below w.heap.size w w2) := hC2.below (below_next HB1.out (by first | exact below_alloc1 _ _ | exact (below_alloc1 _ _).drew)) (Nat.le_refl _)
    obtain ⟨z0, z1⟩ := (⟨hB2.c0, hB2.c1⟩ : _ ∧ _)
    clear hB2 hC2
    by_cases hn3 : n > 3000
    · have HE : Hid (y = (0, 0, 5)) := HY.out.trans (if_pos hn3)
      go_wp2
      go_ret3
      rw [HE.out]
      exact ⟨rfl, HB2.out⟩
    · have HE : Hid (y = (v, n, 0)) := HY.out.trans (if_neg hn3)
      go_wp2_with fail
      go_quiet (fail)
      go_wp2
      go_ret3
      rw [HE.out]
      exact ⟨rfl, HB2.out.trans (below_draws _ _ _)⟩
  · exact below_next HB1.out (below_alloc1 _ _)
  · simp [hz1]
  · rw [← hz1]
    exact ⟨by simp, by simp, by simp⟩

set_option maxRecDepth 100000 in
set_option maxHeartbeats 8000000 in
theorem sSearchSize_c (r : R) (p : P) (d : Int) (pa sa : Option Addr) (pc sc : Nat) (w : World) (h : PRow w p pa sa) (m1 : p.pits.length ≤ 16777216) (m2 : p.stores.length ≤ 16777216) :
    Calls Try.prog 30 #[r.val, p.val pa pc sa sc, .int .i64 d] w fun e w' => e = .returned (.tuple #[.int .i64 (ssizeP r p d).1, .int .i64 (ssizeP r p d).2]) ∧ Below w.heap.size w w' := by
  have F0 := ((Fr.start w).alloc r.cells 31).alloc (p.cells pa pc sa sc) 28
  have hr := R.boxc (F0.at 1 rfl)
  have hp : P.At _ (w.alloc (.cells r.cells 31)).heap.size 0 p pa pc sa sc := ⟨F0.at 0 rfl 0 _ rfl, F0.at 0 rfl 1 _ rfl, F0.at 0 rfl 2 _ rfl⟩
  simp only [World.size_alloc] at hp
  have HA := l15Ask_c _ _ _ _ r p d pa sa pc sc _ hr hp (h.below F0.below (Nat.le_refl _)) m1 m2
  obtain ⟨y, hy⟩ : ∃ y, y = saskP r p d := ⟨_, rfl⟩
  rw [← hy] at HA
  have HA := Lib.hid HA
  have HE : Hid (ssizeP r p d = (y.2.1, y.2.2)) := by
    unfold Hid
    rw [hy, ssizeP, saskP]
    split <;> rfl
  clear hr hp hy
  go_enter Try.func30, Try.ntmps30
  go_wp2_with fail
  refine HA.out.mono ?_
  rintro e w1 ⟨rfl, hb1⟩
  have F1 := F0.step hb1
  clear hb1 F0 HA
  go_wp2
  go_ret2
  rw [HE.out]
  exact ⟨rfl, F1.below⟩
set_option maxRecDepth 100000 in
set_option maxHeartbeats 8000000 in
theorem sSearchValue_c (r : R) (p : P) (d : Int) (pa sa : Option Addr) (pc sc : Nat) (w : World) (h : PRow w p pa sa) (m1 : p.pits.length ≤ 16777216) (m2 : p.stores.length ≤ 16777216) :
    Calls Try.prog 28 #[r.val, p.val pa pc sa sc, .int .i64 d] w fun e w' => e = .returned (.tuple #[.int .i64 (svalP r p d).1, .int .i64 (svalP r p d).2]) ∧ Below w.heap.size w w' := by
  have F0 := ((Fr.start w).alloc r.cells 31).alloc (p.cells pa pc sa sc) 28
  have hr := R.boxc (F0.at 1 rfl)
  have hp : P.At _ (w.alloc (.cells r.cells 31)).heap.size 0 p pa pc sa sc := ⟨F0.at 0 rfl 0 _ rfl, F0.at 0 rfl 1 _ rfl, F0.at 0 rfl 2 _ rfl⟩
  simp only [World.size_alloc] at hp
  have HA := l15Ask_c _ _ _ _ r p d pa sa pc sc _ hr hp (h.below F0.below (Nat.le_refl _)) m1 m2
  obtain ⟨y, hy⟩ : ∃ y, y = saskP r p d := ⟨_, rfl⟩
  rw [← hy] at HA
  have HA := Lib.hid HA
  have HE : Hid (svalP r p d = (y.1, y.2.2)) := by
    unfold Hid
    rw [hy, svalP, saskP]
    split <;> rfl
  clear hr hp hy
  go_enter Try.func28, Try.ntmps28
  go_wp2_with fail
  refine HA.out.mono ?_
  rintro e w1 ⟨rfl, hb1⟩
  have F1 := F0.step hb1
  clear hb1 F0 HA
  go_wp2
  go_ret2
  rw [HE.out]
  exact ⟨rfl, F1.below⟩

end Go.Proofs.Ytcgbbjlcijhcnaa
