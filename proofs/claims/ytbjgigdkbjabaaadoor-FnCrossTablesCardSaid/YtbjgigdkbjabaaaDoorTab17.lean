/- Tab17: meetings that are drawn. Each contract holds for every argument, under the premises that it states. -/
import Derived.Test.YtbjgigdkbjabaaaDoorTab16
import Derived.Deep.CutBlock
namespace Go.Proofs.YtbjgigdkbjabaaaDoor
set_option linter.unusedSimpArgs false
set_option linter.unusedVariables false
set_option linter.unnecessarySimpa false
open Go.RowKit Go.ChangeShapes Go.WideShapes Go.ChangeAt Go.Joins

def slLen : Value → Nat
  | .slice _ n _ => n
  | _ => 0

set_option maxRecDepth 100000 in
set_option maxHeartbeats 8000000 in
theorem l24Number_c (base b m : Nat) (w : World) (h : SrcP base b m w) (hm : m ≤ 1000000) :
    Calls Tryd.prog 69 #[.pointer (some ⟨b, 0, none⟩)] w fun e w' => ∃ n : Int, e = .returned (.int .i64 n) ∧ (0 ≤ n ∧ n ≤ 13) ∧ SrcP base b (m + 4) w' ∧ Chg b (b + 1) w w' := by
  have HS := Lib.hid h
  have HBL : Hid (b < w.heap.size) := h.lt.1
  clear h
  go_enter Tryd.func69, Tryd.ntmps69
  go_wp2_with fail
  refine (one_c base b m 10 w HS.out (by omega) (by omega)).mono ?_
  rintro e w1 ⟨v, rfl, hs1, hc1⟩
  have HS1 := Lib.hid hs1
  have HC1 := Lib.hid hc1
  clear hs1 hc1 HS
  cases v
  · go_wp2_with fail
    refine (pick_c base b (m + 2) 7 w1 HS1.out (by omega) (by omega)).mono ?_
    rintro e w2 ⟨v, rfl, hv0, hv1, hs2, hc2⟩
    have hw1 : IntKind.i64.wrap (2 + v) = 2 + v := IntWalk.i64_in _ (by omega)
    have HE : Hid (SrcP base b (m + 4) w2 ∧ Chg b (b + 1) w w2) := ⟨hs2.mono (by omega), HC1.out.trans hc2⟩
    clear hs2 hc2
    go_wp2
    go_ret
    exact ⟨_, rfl, by omega, HE.out.1, HE.out.2⟩
  · have HSA : Hid (SrcP base b (m + 2) (w1.alloc (.cells #[.int .i64 1, .int .i64 2, .int .i64 12, .int .i64 13, .int .i64 0] 2))) := HS1.out.below (below_alloc1 _ _)
    have HCA : Hid (Chg b (b + 1) w (w1.alloc (.cells #[.int .i64 1, .int .i64 2, .int .i64 12, .int .i64 13, .int .i64 0] 2))) := HC1.out.allocT _ _
    have HGA : Hid (BoxP w1.heap.size (([1, 2, 12, 13, 0] : List Int).map (Value.int .i64)) (w1.alloc (.cells #[.int .i64 1, .int .i64 2, .int .i64 12, .int .i64 13, .int .i64 0] 2))) := ((Fr.start w1).alloc #[.int .i64 1, .int .i64 2, .int .i64 12, .int .i64 13, .int .i64 0] 2).at 0 rfl
    have HNE : Hid (w1.heap.size ≠ b) := by have := HS1.out.lt.1; unfold Hid; omega
    go_wp2_with fail
    refine (among_c base b (m + 2) w1.heap.size [1, 2, 12, 13, 0] _ HSA.out (by omega) HGA.out HNE.out (by decide) (by decide)).mono ?_
    rintro e w2 ⟨x, hx, rfl, hs2, hc2⟩
    have HE : Hid (SrcP base b (m + 4) w2 ∧ Chg b (b + 1) w w2) := ⟨hs2.mono (by omega), HCA.out.trans hc2⟩
    have HX : Hid (0 ≤ x ∧ x ≤ 13) := by simp at hx; unfold Hid; omega
    clear hs2 hc2 hx
    go_wp2
    go_ret
    exact ⟨_, rfl, HX.out, HE.out.1, HE.out.2⟩

set_option maxRecDepth 100000 in
set_option maxHeartbeats 16000000 in
theorem l24Draw_c (base b m : Nat) (n : Int) (w : World) (h : SrcP base b m w) (hm : m ≤ 1000000) (hn : 0 ≤ n ∧ n ≤ 13) :
    Calls Tryd.prog 93 #[.pointer (some ⟨b, 0, none⟩), .int .i64 n] w fun e w' => ∃ (g c : Nat) (l : List Mg), e = .returned (.slice (some ⟨g, 0, none⟩) l.length c) ∧ l.length ≤ 200 ∧ MgO w' w.heap.size g l.length c l ∧ SrcP base b (m + 100) w' ∧ Chg b (b + 1) w w' := by
  obtain ⟨i0, hi, hz0, hz1, hz2⟩ := info_partsMg infoMg
  have HBL : Hid (b < w.heap.size) := h.lt.1
  have HSA : Hid (SrcP base b m (w.alloc (.cells #[] 122))) := h.below (below_alloc1 _ _)
  have HCA : Hid (Chg b (b + 1) w (w.alloc (.cells #[] 122))) := (Chg.refl _ _ _).allocT _ _
  have HOA : Hid (MgO (w.alloc (.cells #[] 122)) w.heap.size w.heap.size 0 0 []) := World.ownsRow_lit (base := w.heap.size) (e := 122) (size := 2) w #[] 0 (Nat.le_refl _) (Nat.zero_le _) rfl
  clear h
  go_enter Tryd.func93, Tryd.ntmps93
  go_wp2_with fail
  refine (one_c base b m 2 _ HSA.out (by omega) (by omega)).mono ?_
  rintro e w1 ⟨v, rfl, hs1, hc1⟩
  have HSU := Lib.hid hs1
  have HCU : Hid (Chg b (b + 1) w w1) := HCA.out.trans hc1
  have HOU : Hid (MgO w1 w.heap.size w.heap.size 0 0 []) := own_chg HOA.out hc1 (by have := HBL.out; omega)
  clear hs1 hc1 HSA HCA HOA
  cases v
  · go_wp2_with fail
    refine (pick_c base b (m + 2) 12 w1 HSU.out (by omega) (by omega)).mono ?_
    rintro e w2 ⟨v, rfl, hv0, hv1, hs2, hc2⟩
    obtain ⟨V, rfl⟩ : ∃ V : Nat, v = (V : Int) := ⟨v.toNat, by omega⟩
    have HS2 : Hid (SrcP base b (m + 60 - 4 * V) w2) := hs2.mono (by omega)
    have HC2 : Hid (Chg b (b + 1) w w2) := HCU.out.trans hc2
    have HO2 : Hid (MgO w2 w.heap.size w.heap.size 0 0 []) := own_chg HOU.out hc2 (by have := HBL.out; omega)
    have hV : V ≤ 11 := by omega
    clear hs2 hc2 HSU HCU HOU hv0 hv1
    go_wp2_with fail
    go_loopw [5, 9] (fun s i wr => ∃ (r k g c : Nat) (l : List Mg), i = .int .i64 (r : Int) ∧ s = .slice (some ⟨g, 0, none⟩) k c ∧ r ≤ 11 ∧ k + r ≤ 11 ∧ l.length = k ∧ Hid (MgO wr w.heap.size g k c l) ∧ Hid (SrcP base b (m + 60 - 4 * r) wr) ∧ Hid (Chg b (b + 1) w wr)) (fun _ i _ => (intOf i).toNat)
    case atStart => exact ⟨V, 0, _, _, [], rfl, rfl, hV, by omega, rfl, HO2, HS2, HC2⟩
    case round =>
      clear HO2 HS2 HC2
      obtain ⟨r, k, g, c, l, rfl, rfl, hr, hkr, hlk, HO, HS, HC⟩ := hrel
      have HLK := Lib.hid hlk
      clear hlk
      by_cases hgo : 0 < r ∧ 1 < n
      · obtain ⟨hr0, hn1⟩ := hgo
        have hr0I : (0 : Int) < (r : Int) := by omega
        go_wp2_with fail
        refine (pick_c base b _ n wr HS.out (by omega) (by omega)).mono ?_
        rintro e w3 ⟨v, rfl, hv0, hv1, hs3, hc3⟩
        have HS3 := Lib.hid hs3
        have HC3 : Hid (Chg b (b + 1) w w3) := HC.out.trans hc3
        have HO3 : Hid (MgO w3 w.heap.size g k c l) := own_chg HO.out hc3 (by have := HBL.out; omega)
        have hw1 : IntKind.i64.wrap (n - 1) = n - 1 := IntWalk.i64_in _ (by omega)
        have hw2 : IntKind.i64.wrap (v + 1) = v + 1 := IntWalk.i64_in _ (by omega)
        clear hs3 hc3 HO HS HC
        go_wp2_with fail
        refine (pick_c base b _ (n - 1) w3 HS3.out (by omega) (by omega)).mono ?_
        rintro e w4 ⟨u, rfl, hu0, hu1, hs4, hc4⟩
        have HS : Hid (SrcP base b (m + 60 - 4 * (r - 1)) w4) := hs4.mono (by omega)
        have HC : Hid (Chg b (b + 1) w w4) := HC3.out.trans hc4
        have HO : Hid (MgO w4 w.heap.size g k c l) := own_chg HO3.out hc4 (by have := HBL.out; omega)
        have hn0 : ¬ n = 0 := by omega
        have hw3 : IntKind.i64.wrap (v + 1 + u) = v + 1 + u := IntWalk.i64_in _ (by omega)
        have ht : (v + 1 + u).tmod n = (v + 1 + u) % n := Int.tmod_eq_emod_of_nonneg (by omega)
        have hq0 : 0 ≤ (v + 1 + u) % n := Int.emod_nonneg _ hn0
        have hq1 : (v + 1 + u) % n < n := Int.emod_lt_of_pos _ (by omega)
        obtain ⟨Q, hQ⟩ : ∃ Q, Q = (v + 1 + u) % n := ⟨_, rfl⟩
        rw [← hQ] at hq0 hq1 ht
        have hQ' : (v + 1 + u) % n = Q := hQ.symm
        have hw4 : IntKind.i64.wrap Q = Q := IntWalk.i64_in _ (by omega)
        clear hs4 hc4 HO3 HS3 HC3 hQ
        have HWA : Hid (BoxP w4.heap.size [.int .i64 v, .int .i64 Q] (w4.alloc (.cells #[.int .i64 v, .int .i64 Q] 122))) := ((Fr.start w4).alloc #[.int .i64 v, .int .i64 Q] 122).at 0 rfl
        have HOW : Hid (MgO (w4.alloc (.cells #[.int .i64 v, .int .i64 Q] 122)) w.heap.size g k c l) := own_below HO.out (below_alloc1 _ _) (Nat.le_refl _)
        have HSW : Hid (SrcP base b (m + 60 - 4 * (r - 1)) (w4.alloc (.cells #[.int .i64 v, .int .i64 Q] 122))) := HS.out.below (below_alloc1 _ _)
        have HCW : Hid (Chg b (b + 1) w (w4.alloc (.cells #[.int .i64 v, .int .i64 Q] 122))) := HC.out.allocT _ _
        clear HO HS HC
        go_wp2_with (at_builtin; refine wpList_append_own2 _ rfl _ _ 119 rfl w.heap.size 122 i0 (.agg #[.int .i64 0, .int .i64 0]) 2 16 Tryd.underlying119 hi hz0 hz1 hz2 rfl (by decide) (.slice (some ⟨g, 0, none⟩) k c) k (flat mgF l) rfl HOW.out ⟨w4.heap.size, 0, none⟩ 1 1 [.int .i64 v, .int .i64 Q] rfl rfl (fun j u hu => by rw [addr_addT, Nat.zero_add]; exact HWA.out j u hu) (by intro u hu; simp at hu; rcases hu with rfl | rfl <;> rfl) (by unfold maxLen; omega) (by omega) (HCW.out.size) ?_)
        intro ad6 c6 w6 ho6 hg6 hn6
        obtain ⟨g6, rfl, _, _⟩ := own_lt_n ho6 (by omega)
        have HO6 : Hid (MgO w6 w.heap.size g6 (k + 1) c6 (l ++ [⟨v, Q⟩])) := by
          unfold Hid MgO
          rw [flat_append, flat_one]
          exact ho6
        have HS6 : Hid (SrcP base b (m + 60 - 4 * (r - 1)) w6) := HSW.out.grown hg6 (fun q hq => by have := (HOW.out.lt q hq).1; have := HBL.out; omega)
        have HC6 : Hid (Chg b (b + 1) w w6) := HCW.out.grown hg6 (fun q hq => (HOW.out.lt q hq).1)
        have HL6 : Hid ((l ++ [(⟨v, Q⟩ : Mg)]).length = k + 1) := by unfold Hid; rw [List.length_append, HLK.out]; rfl
        clear ho6 hg6 hn6 HOW HSW HCW HWA
        have hwr : IntKind.i64.wrap ((r : Int) - 1) = ((r - 1 : Nat) : Int) := by rw [IntWalk.i64_in _ (by omega)]; omega
        go_wp2
        go_roundw
        case rel => exact ⟨r - 1, k + 1, g6, c6, l ++ [⟨v, Q⟩], by go_num, rfl, by omega, by omega, HL6.out, HO6, HS6, HC6⟩
        case measure => simp [intOf]; omega
      · have HE : Hid (l.length = k ∧ MgO wr w.heap.size g k c l ∧ SrcP base b (m + 100) wr ∧ Chg b (b + 1) w wr) := ⟨HLK.out, HO.out, HS.out.mono (by omega), HC.out⟩
        clear HO HS HC HLK
        by_cases hr0 : 0 < r
        · have hr0I : (0 : Int) < (r : Int) := by omega
          have hn1 : ¬ 1 < n := fun e => hgo ⟨hr0, e⟩
          clear hgo
          go_wp2
          go_ret
          obtain ⟨e1, e2⟩ := HE.out
          subst e1
          exact ⟨g, c, l, rfl, by omega, e2⟩
        · have hr0I : ¬ (0 : Int) < (r : Int) := by omega
          clear hgo
          go_wp2
          go_ret
          obtain ⟨e1, e2⟩ := HE.out
          subst e1
          exact ⟨g, c, l, rfl, by omega, e2⟩
  have HP := Lib.hid (l24Players_c n w1)
  cases hin : inB n 2 12 with
  | false =>
    rw [hin] at HP
    clear hin
    go_wp2_with fail
    refine HP.out.mono ?_
    rintro e wp ⟨rfl, rfl⟩
    clear HP
    go_wp2_with fail
    refine (pick_c base b (m + 2) 12 w1 HSU.out (by omega) (by omega)).mono ?_
    rintro e w2 ⟨v, rfl, hv0, hv1, hs2, hc2⟩
    obtain ⟨V, rfl⟩ : ∃ V : Nat, v = (V : Int) := ⟨v.toNat, by omega⟩
    have HS2 : Hid (SrcP base b (m + 60 - 4 * V) w2) := hs2.mono (by omega)
    have HC2 : Hid (Chg b (b + 1) w w2) := HCU.out.trans hc2
    have HO2 : Hid (MgO w2 w.heap.size w.heap.size 0 0 []) := own_chg HOU.out hc2 (by have := HBL.out; omega)
    have hV : V ≤ 11 := by omega
    clear hs2 hc2 HSU HCU HOU hv0 hv1
    go_wp2_with fail
    go_loopw [5, 9] (fun s i wr => ∃ (r k g c : Nat) (l : List Mg), i = .int .i64 (r : Int) ∧ s = .slice (some ⟨g, 0, none⟩) k c ∧ r ≤ 11 ∧ k + r ≤ 11 ∧ l.length = k ∧ Hid (MgO wr w.heap.size g k c l) ∧ Hid (SrcP base b (m + 60 - 4 * r) wr) ∧ Hid (Chg b (b + 1) w wr)) (fun _ i _ => (intOf i).toNat)
    case atStart => exact ⟨V, 0, _, _, [], rfl, rfl, hV, by omega, rfl, HO2, HS2, HC2⟩
    case round =>
      clear HO2 HS2 HC2
      obtain ⟨r, k, g, c, l, rfl, rfl, hr, hkr, hlk, HO, HS, HC⟩ := hrel
      have HLK := Lib.hid hlk
      clear hlk
      by_cases hgo : 0 < r ∧ 1 < n
      · obtain ⟨hr0, hn1⟩ := hgo
        have hr0I : (0 : Int) < (r : Int) := by omega
        go_wp2_with fail
        refine (pick_c base b _ n wr HS.out (by omega) (by omega)).mono ?_
        rintro e w3 ⟨v, rfl, hv0, hv1, hs3, hc3⟩
        have HS3 := Lib.hid hs3
        have HC3 : Hid (Chg b (b + 1) w w3) := HC.out.trans hc3
        have HO3 : Hid (MgO w3 w.heap.size g k c l) := own_chg HO.out hc3 (by have := HBL.out; omega)
        have hw1 : IntKind.i64.wrap (n - 1) = n - 1 := IntWalk.i64_in _ (by omega)
        have hw2 : IntKind.i64.wrap (v + 1) = v + 1 := IntWalk.i64_in _ (by omega)
        clear hs3 hc3 HO HS HC
        go_wp2_with fail
        refine (pick_c base b _ (n - 1) w3 HS3.out (by omega) (by omega)).mono ?_
        rintro e w4 ⟨u, rfl, hu0, hu1, hs4, hc4⟩
        have HS : Hid (SrcP base b (m + 60 - 4 * (r - 1)) w4) := hs4.mono (by omega)
        have HC : Hid (Chg b (b + 1) w w4) := HC3.out.trans hc4
        have HO : Hid (MgO w4 w.heap.size g k c l) := own_chg HO3.out hc4 (by have := HBL.out; omega)
        have hn0 : ¬ n = 0 := by omega
        have hw3 : IntKind.i64.wrap (v + 1 + u) = v + 1 + u := IntWalk.i64_in _ (by omega)
        have ht : (v + 1 + u).tmod n = (v + 1 + u) % n := Int.tmod_eq_emod_of_nonneg (by omega)
        have hq0 : 0 ≤ (v + 1 + u) % n := Int.emod_nonneg _ hn0
        have hq1 : (v + 1 + u) % n < n := Int.emod_lt_of_pos _ (by omega)
        obtain ⟨Q, hQ⟩ : ∃ Q, Q = (v + 1 + u) % n := ⟨_, rfl⟩
        rw [← hQ] at hq0 hq1 ht
        have hQ' : (v + 1 + u) % n = Q := hQ.symm
        have hw4 : IntKind.i64.wrap Q = Q := IntWalk.i64_in _ (by omega)
        clear hs4 hc4 HO3 HS3 HC3 hQ
        have HWA : Hid (BoxP w4.heap.size [.int .i64 v, .int .i64 Q] (w4.alloc (.cells #[.int .i64 v, .int .i64 Q] 122))) := ((Fr.start w4).alloc #[.int .i64 v, .int .i64 Q] 122).at 0 rfl
        have HOW : Hid (MgO (w4.alloc (.cells #[.int .i64 v, .int .i64 Q] 122)) w.heap.size g k c l) := own_below HO.out (below_alloc1 _ _) (Nat.le_refl _)
        have HSW : Hid (SrcP base b (m + 60 - 4 * (r - 1)) (w4.alloc (.cells #[.int .i64 v, .int .i64 Q] 122))) := HS.out.below (below_alloc1 _ _)
        have HCW : Hid (Chg b (b + 1) w (w4.alloc (.cells #[.int .i64 v, .int .i64 Q] 122))) := HC.out.allocT _ _
        clear HO HS HC
        go_wp2_with (at_builtin; refine wpList_append_own2 _ rfl _ _ 119 rfl w.heap.size 122 i0 (.agg #[.int .i64 0, .int .i64 0]) 2 16 Tryd.underlying119 hi hz0 hz1 hz2 rfl (by decide) (.slice (some ⟨g, 0, none⟩) k c) k (flat mgF l) rfl HOW.out ⟨w4.heap.size, 0, none⟩ 1 1 [.int .i64 v, .int .i64 Q] rfl rfl (fun j u hu => by rw [addr_addT, Nat.zero_add]; exact HWA.out j u hu) (by intro u hu; simp at hu; rcases hu with rfl | rfl <;> rfl) (by unfold maxLen; omega) (by omega) (HCW.out.size) ?_)
        intro ad6 c6 w6 ho6 hg6 hn6
        obtain ⟨g6, rfl, _, _⟩ := own_lt_n ho6 (by omega)
        have HO6 : Hid (MgO w6 w.heap.size g6 (k + 1) c6 (l ++ [⟨v, Q⟩])) := by
          unfold Hid MgO
          rw [flat_append, flat_one]
          exact ho6
        have HS6 : Hid (SrcP base b (m + 60 - 4 * (r - 1)) w6) := HSW.out.grown hg6 (fun q hq => by have := (HOW.out.lt q hq).1; have := HBL.out; omega)
        have HC6 : Hid (Chg b (b + 1) w w6) := HCW.out.grown hg6 (fun q hq => (HOW.out.lt q hq).1)
        have HL6 : Hid ((l ++ [(⟨v, Q⟩ : Mg)]).length = k + 1) := by unfold Hid; rw [List.length_append, HLK.out]; rfl
        clear ho6 hg6 hn6 HOW HSW HCW HWA
        have hwr : IntKind.i64.wrap ((r : Int) - 1) = ((r - 1 : Nat) : Int) := by rw [IntWalk.i64_in _ (by omega)]; omega
        go_wp2
        go_roundw
        case rel => exact ⟨r - 1, k + 1, g6, c6, l ++ [⟨v, Q⟩], by go_num, rfl, by omega, by omega, HL6.out, HO6, HS6, HC6⟩
        case measure => simp [intOf]; omega
      · have HE : Hid (l.length = k ∧ MgO wr w.heap.size g k c l ∧ SrcP base b (m + 100) wr ∧ Chg b (b + 1) w wr) := ⟨HLK.out, HO.out, HS.out.mono (by omega), HC.out⟩
        clear HO HS HC HLK
        by_cases hr0 : 0 < r
        · have hr0I : (0 : Int) < (r : Int) := by omega
          have hn1 : ¬ 1 < n := fun e => hgo ⟨hr0, e⟩
          clear hgo
          go_wp2
          go_ret
          obtain ⟨e1, e2⟩ := HE.out
          subst e1
          exact ⟨g, c, l, rfl, by omega, e2⟩
        · have hr0I : ¬ (0 : Int) < (r : Int) := by omega
          clear hgo
          go_wp2
          go_ret
          obtain ⟨e1, e2⟩ := HE.out
          subst e1
          exact ⟨g, c, l, rfl, by omega, e2⟩
  | true =>
    rw [hin] at HP
    have hn2 := inB_iff.1 hin
    have HR := Lib.hid (fun w => l24Rounds_c n w (by omega))
    have hb := rndP_bd hn2
    have HRR : Hid (∀ (rd : Int) W, 0 ≤ rd ∧ rd ≤ rndP n - 1 → Calls Tryd.prog 100 #[.int .i64 n, .int .i64 rd] W fun e w' => ∃ (g c : Nat) (l : List Mg), e = .returned (.tuple #[.slice (some ⟨g, 0, none⟩) l.length c, .int .i64 0]) ∧ l.length ≤ 12 ∧ MgO w' W.heap.size g l.length c l ∧ Below W.heap.size W w') := fun rd W hr => RoundRobin_c n rd W hn2 hr
    obtain ⟨M, hM⟩ : ∃ M, M = rndP n := ⟨_, rfl⟩
    rw [← hM] at HR hb HRR
    clear hin hM
    go_wp2_with fail
    refine HP.out.mono ?_
    rintro e wp ⟨rfl, rfl⟩
    clear HP
    go_wp2_with fail
    refine (HR.out _).mono ?_
    rintro e wp ⟨rfl, rfl⟩
    go_wp2_with fail
    refine (pick_c base b (m + 2) M w1 HSU.out (by omega) (by omega)).mono ?_
    rintro e w2 ⟨v, rfl, hv0, hv1, hs2, hc2⟩
    obtain ⟨V, rfl⟩ : ∃ V : Nat, v = (V : Int) := ⟨v.toNat, by omega⟩
    have HS2 : Hid (SrcP base b (m + 100) w2) := hs2.mono (by omega)
    have HC2 : Hid (Chg b (b + 1) w w2) := HCU.out.trans hc2
    have HO2 : Hid (MgO w2 w.heap.size w.heap.size 0 0 []) := own_chg HOU.out hc2 (by have := HBL.out; omega)
    have hV : V ≤ 10 ∧ (V : Int) ≤ M - 1 := by omega
    clear hs2 hc2 HSU HCU HOU hv0 hv1 HR
    go_wp2_with fail
    go_loopw [5, 6] (fun s i wr => ∃ (r k g c : Nat) (l : List Mg), i = .int .i64 (r : Int) ∧ s = .slice (some ⟨g, 0, none⟩) k c ∧ (r ≤ 10 ∧ (r : Int) ≤ M - 1) ∧ k + 12 * r ≤ 200 ∧ l.length = k ∧ Hid (MgO wr w.heap.size g k c l) ∧ Hid (SrcP base b (m + 100) wr) ∧ Hid (Chg b (b + 1) w wr)) (fun _ i _ => (intOf i).toNat)
    case atStart => exact ⟨V, 0, _, _, [], rfl, rfl, hV, by omega, rfl, HO2, HS2, HC2⟩
    case round =>
      clear HO2 HS2 HC2
      obtain ⟨r, k, g, c, l, rfl, rfl, hr, hkr, hlk, HO, HS, HC⟩ := hrel
      have HLK := Lib.hid hlk
      clear hlk
      by_cases hr0 : 0 < r
      · have hr0I : (0 : Int) < (r : Int) := by omega
        have hwr : IntKind.i64.wrap ((r : Int) - 1) = (r : Int) - 1 := IntWalk.i64_in _ (by omega)
        go_wp2_with fail
        refine (HRR.out _ _ (by omega)).mono ?_
        rintro e w3 ⟨g3, c3, l3, rfl, hl3, ho3, hb3⟩
        have HO3 := Lib.hid ho3
        have HOW : Hid (MgO w3 w.heap.size g k c l) := own_below HO.out hb3 (Nat.le_refl _)
        have HS3 : Hid (SrcP base b (m + 100) w3) := HS.out.below hb3
        have HC3 : Hid (Chg b (b + 1) w w3) := HC.out.trans (Chg.ofBelow hb3)
        have HL3 : Hid ((flat mgF l3).length = l3.length * 2) := flat_length mgF_len l3
        clear ho3 hb3 HO HS HC
        go_wp2_with (at_builtin; refine wpList_append_own _ rfl _ _ 119 rfl w.heap.size 122 i0 (.agg #[.int .i64 0, .int .i64 0]) 2 16 Tryd.underlying119 hi hz0 hz1 hz2 rfl (by decide) (.slice (some ⟨g, 0, none⟩) k c) k (flat mgF l) rfl HOW.out ⟨g3, 0, none⟩ l3.length c3 (flat mgF l3) rfl HL3.out (HO3.out.cells (g := g3) rfl) (mg_oneCell _) (by unfold maxLen; omega) (by omega) (HC3.out.size) ?_)
        intro v6 w6 ho6 hg6 hn6
        have hex : ∃ g6 c6, v6 = .slice (some ⟨g6, 0, none⟩) (k + l3.length) c6 := by
          rcases ho6.2 with ⟨h1, _⟩ | ⟨gg, cap, cur, hv, _⟩
          · exact (hn6 h1).elim
          · exact ⟨gg, cap, hv⟩
        obtain ⟨g6, c6, rfl⟩ := hex
        have HO6 : Hid (MgO w6 w.heap.size g6 (k + l3.length) c6 (l ++ l3)) := by
          unfold Hid MgO
          rw [flat_append]
          exact ho6
        have HS6 : Hid (SrcP base b (m + 100) w6) := HS3.out.grown hg6 (fun q hq => by have := (HOW.out.lt q hq).1; have := HBL.out; omega)
        have HC6 : Hid (Chg b (b + 1) w w6) := HC3.out.grown hg6 (fun q hq => (HOW.out.lt q hq).1)
        have HL6 : Hid ((l ++ l3).length = k + l3.length) := by unfold Hid; rw [List.length_append, HLK.out]
        have hwr2 : IntKind.i64.wrap ((r : Int) - 1) = ((r - 1 : Nat) : Int) := by rw [hwr]; omega
        clear ho6 hg6 hn6 HOW HS3 HC3 HO3
        go_wp2
        go_roundw
        case rel => exact ⟨r - 1, k + l3.length, g6, c6, l ++ l3, by go_num, rfl, by omega, by omega, HL6.out, HO6, HS6, HC6⟩
        case measure => simp [intOf]; omega
      · have hr0I : ¬ (0 : Int) < (r : Int) := by omega
        have HE : Hid (l.length = k ∧ MgO wr w.heap.size g k c l ∧ SrcP base b (m + 100) wr ∧ Chg b (b + 1) w wr) := ⟨HLK.out, HO.out, HS.out, HC.out⟩
        clear HO HS HC HLK
        go_wp2
        go_ret
        obtain ⟨e1, e2⟩ := HE.out
        subst e1
        exact ⟨g, c, l, rfl, by omega, e2⟩

set_option maxRecDepth 100000 in
set_option maxHeartbeats 16000000 in
theorem l24Bent_c (base b m : Nat) (n : Int) (w : World) (h : SrcP base b m w) (hm : m ≤ 100000) (hn : 0 ≤ n ∧ n ≤ 13) :
    Calls Tryd.prog 85 #[.pointer (some ⟨b, 0, none⟩), .int .i64 n] w fun e w' => ∃ (g c : Nat) (l : List Mg), e = .returned (.slice (some ⟨g, 0, none⟩) l.length c) ∧ l.length ≤ 300 ∧ MgO w' w.heap.size g l.length c l ∧ SrcP base b (m + 1000) w' ∧ Chg b (b + 1) w w' := by
  obtain ⟨i0, hi, hz0, hz1, hz2⟩ := info_partsMg infoMg
  have HBL : Hid (b < w.heap.size) := h.lt.1
  have HD := Lib.hid (l24Draw_c base b m n w h (by omega) hn)
  clear h
  go_enter Tryd.func85, Tryd.ntmps85
  go_wp2_with fail
  refine HD.out.mono ?_
  rintro e w1 ⟨g, c, l, rfl, hl1, ho1, hs1, hc1⟩
  have HO1 := Lib.hid ho1
  have HS1 := Lib.hid hs1
  have HC1 := Lib.hid hc1
  obtain ⟨k, hk⟩ : ∃ k, k = l.length := ⟨_, rfl⟩
  rw [← hk] at HO1 hl1
  rw [← hk]
  have HLK : Hid (l.length = k) := hk.symm
  clear ho1 hs1 hc1 hk HD
  go_wp2_with fail
  refine (pick_c base b _ 24 w1 HS1.out (by omega) (by omega)).mono ?_
  rintro e w2 ⟨v, rfl, hv0, hv1, hs2, hc2⟩
  have HS : Hid (SrcP base b (m + 102) w2) := hs2
  have HC : Hid (Chg b (b + 1) w w2) := HC1.out.trans hc2
  have HO : Hid (MgO w2 w.heap.size g k c l) := own_chg HO1.out hc2 (by have := HBL.out; omega)
  clear hs2 hc2 HO1 HS1 HC1
  rcases (show v = 0 ∨ v = 1 ∨ v = 2 ∨ 3 ≤ v by omega) with rfl | rfl | rfl | h3
  · clear hv0 hv1
    go_wp2_with fail
    refine (pick_c base b _ 3 w2 HS.out (by omega) (by omega)).mono ?_
    rintro e w3 ⟨v, rfl, hv0, hv1, hs3, hc3⟩
    obtain ⟨X, hX⟩ : ∃ X, X = v - 1 := ⟨_, rfl⟩
    have hwX : IntKind.i64.wrap (v - 1) = X := by rw [hX]; exact IntWalk.i64_in _ (by omega)
    have HS3 : Hid (SrcP base b (m + 104) w3) := hs3
    have HC3 : Hid (Chg b (b + 1) w w3) := HC.out.trans hc3
    have HO3 : Hid (MgO w3 w.heap.size g k c l) := own_chg HO.out hc3 (by have := HBL.out; omega)
    clear hs3 hc3 HS HC HO hX hv0 hv1
    have HS := HS3
    have HC := HC3
    have HO := HO3
    clear HS3 HC3 HO3
    have HWA : Hid (BoxP w3.heap.size [.int .i64 X, .int .i64 n] (w3.alloc (.cells #[.int .i64 X, .int .i64 n] 122))) := ((Fr.start w3).alloc #[.int .i64 X, .int .i64 n] 122).at 0 rfl
    have HOW : Hid (MgO (w3.alloc (.cells #[.int .i64 X, .int .i64 n] 122)) w.heap.size g k c l) := own_below HO.out (below_alloc1 _ _) (Nat.le_refl _)
    have HSW : Hid (SrcP base b (m + 104) (w3.alloc (.cells #[.int .i64 X, .int .i64 n] 122))) := HS.out.below (below_alloc1 _ _)
    have HCW : Hid (Chg b (b + 1) w (w3.alloc (.cells #[.int .i64 X, .int .i64 n] 122))) := HC.out.allocT _ _
    clear HO HS HC
    go_wp2_with (at_builtin; refine wpList_append_own2 _ rfl _ _ 119 rfl w.heap.size 122 i0 (.agg #[.int .i64 0, .int .i64 0]) 2 16 Tryd.underlying119 hi hz0 hz1 hz2 rfl (by decide) (.slice (some ⟨g, 0, none⟩) k c) k (flat mgF l) rfl HOW.out ⟨w3.heap.size, 0, none⟩ 1 1 [.int .i64 X, .int .i64 n] rfl rfl (fun j u hu => by rw [addr_addT, Nat.zero_add]; exact HWA.out j u hu) (by intro u hu; simp at hu; rcases hu with rfl | rfl <;> rfl) (by unfold maxLen; omega) (by omega) (HCW.out.size) ?_)
    intro ad6 c6 w6 ho6 hg6 hn6
    obtain ⟨g6, rfl, _, _⟩ := own_lt_n ho6 (by omega)
    have HO6 : Hid (MgO w6 w.heap.size g6 (k + 1) c6 (l ++ [⟨X, n⟩])) := by
      unfold Hid MgO
      rw [flat_append, flat_one]
      exact ho6
    have HS6 : Hid (SrcP base b (m + 104) w6) := HSW.out.grown hg6 (fun q hq => by have := (HOW.out.lt q hq).1; have := HBL.out; omega)
    have HC6 : Hid (Chg b (b + 1) w w6) := HCW.out.grown hg6 (fun q hq => (HOW.out.lt q hq).1)
    have HL6 : Hid ((l ++ [(⟨X, n⟩ : Mg)]).length = k + 1) := by unfold Hid; rw [List.length_append, HLK.out]; rfl
    clear ho6 hg6 hn6 HOW HSW HCW HWA
    go_wp2
    go_ret
    have e1 := HL6.out
    exact ⟨g6, c6, _, by rw [e1]; rfl, by rw [e1]; omega, by rw [e1]; exact HO6.out, HS6.out.mono (by omega), HC6.out⟩
  · clear hv0 hv1
    have HWA : Hid (BoxP w2.heap.size [.int .i64 1, .int .i64 1] (w2.alloc (.cells #[.int .i64 1, .int .i64 1] 122))) := ((Fr.start w2).alloc #[.int .i64 1, .int .i64 1] 122).at 0 rfl
    have HOW : Hid (MgO (w2.alloc (.cells #[.int .i64 1, .int .i64 1] 122)) w.heap.size g k c l) := own_below HO.out (below_alloc1 _ _) (Nat.le_refl _)
    have HSW : Hid (SrcP base b (m + 102) (w2.alloc (.cells #[.int .i64 1, .int .i64 1] 122))) := HS.out.below (below_alloc1 _ _)
    have HCW : Hid (Chg b (b + 1) w (w2.alloc (.cells #[.int .i64 1, .int .i64 1] 122))) := HC.out.allocT _ _
    clear HO HS HC
    go_wp2_with (at_builtin; refine wpList_append_own2 _ rfl _ _ 119 rfl w.heap.size 122 i0 (.agg #[.int .i64 0, .int .i64 0]) 2 16 Tryd.underlying119 hi hz0 hz1 hz2 rfl (by decide) (.slice (some ⟨g, 0, none⟩) k c) k (flat mgF l) rfl HOW.out ⟨w2.heap.size, 0, none⟩ 1 1 [.int .i64 1, .int .i64 1] rfl rfl (fun j u hu => by rw [addr_addT, Nat.zero_add]; exact HWA.out j u hu) (by intro u hu; simp at hu; rcases hu with rfl | rfl <;> rfl) (by unfold maxLen; omega) (by omega) (HCW.out.size) ?_)
    intro ad6 c6 w6 ho6 hg6 hn6
    obtain ⟨g6, rfl, _, _⟩ := own_lt_n ho6 (by omega)
    have HO6 : Hid (MgO w6 w.heap.size g6 (k + 1) c6 (l ++ [⟨1, 1⟩])) := by
      unfold Hid MgO
      rw [flat_append, flat_one]
      exact ho6
    have HS6 : Hid (SrcP base b (m + 102) w6) := HSW.out.grown hg6 (fun q hq => by have := (HOW.out.lt q hq).1; have := HBL.out; omega)
    have HC6 : Hid (Chg b (b + 1) w w6) := HCW.out.grown hg6 (fun q hq => (HOW.out.lt q hq).1)
    have HL6 : Hid ((l ++ [(⟨1, 1⟩ : Mg)]).length = k + 1) := by unfold Hid; rw [List.length_append, HLK.out]; rfl
    clear ho6 hg6 hn6 HOW HSW HCW HWA
    go_wp2
    go_ret
    have e1 := HL6.out
    exact ⟨g6, c6, _, by rw [e1]; rfl, by rw [e1]; omega, by rw [e1]; exact HO6.out, HS6.out.mono (by omega), HC6.out⟩
  · clear hv0 hv1
    have HS2 : Hid (SrcP base b (m + 102 + 2 * k) w2) := HS.out.mono (by omega)
    go_wp2_with fail
    go_loopw [5] (fun s wr => ∃ (k g c : Nat) (l : List Mg), s = .slice (some ⟨g, 0, none⟩) k c ∧ k ≤ 300 ∧ l.length = k ∧ Hid (MgO wr w.heap.size g k c l) ∧ Hid (SrcP base b (m + 102 + 2 * k) wr) ∧ Hid (Chg b (b + 1) w wr)) (fun s _ => 301 - slLen s)
    case atStart => exact ⟨k, g, c, l, rfl, by omega, HLK.out, HO, HS2, HC⟩
    case round =>
      clear HO HS HC HS2 HLK hl1
      obtain ⟨k, g, c, l, rfl, hk, hlk, HO, HS, HC⟩ := hrel
      have HLK := Lib.hid hlk
      clear hlk
      go_wp2_with fail
      refine (pick_c base b _ 2 wr HS.out (by omega) (by omega)).mono ?_
      rintro e w3 ⟨u, rfl, hu0, hu1, hs3, hc3⟩
      have hwu : IntKind.i64.wrap (150 + u) = 150 + u := IntWalk.i64_in _ (by omega)
      have HS3 : Hid (SrcP base b (m + 102 + 2 * (k + 1)) w3) := hs3.mono (by omega)
      have HC3 : Hid (Chg b (b + 1) w w3) := HC.out.trans hc3
      have HO3 : Hid (MgO w3 w.heap.size g k c l) := own_chg HO.out hc3 (by have := HBL.out; omega)
      clear hs3 hc3 HS HC HO
      have HS := HS3
      have HC := HC3
      have HO := HO3
      clear HS3 HC3 HO3
      by_cases hlt : (k : Int) < 150 + u
      · have hk2 : k ≤ 151 := by omega
        have HWA : Hid (BoxP w3.heap.size [.int .i64 0, .int .i64 1] (w3.alloc (.cells #[.int .i64 0, .int .i64 1] 122))) := ((Fr.start w3).alloc #[.int .i64 0, .int .i64 1] 122).at 0 rfl
        have HOW : Hid (MgO (w3.alloc (.cells #[.int .i64 0, .int .i64 1] 122)) w.heap.size g k c l) := own_below HO.out (below_alloc1 _ _) (Nat.le_refl _)
        have HSW : Hid (SrcP base b (m + 102 + 2 * (k + 1)) (w3.alloc (.cells #[.int .i64 0, .int .i64 1] 122))) := HS.out.below (below_alloc1 _ _)
        have HCW : Hid (Chg b (b + 1) w (w3.alloc (.cells #[.int .i64 0, .int .i64 1] 122))) := HC.out.allocT _ _
        clear HO HS HC
        go_wp2_with (at_builtin; refine wpList_append_own2 _ rfl _ _ 119 rfl w.heap.size 122 i0 (.agg #[.int .i64 0, .int .i64 0]) 2 16 Tryd.underlying119 hi hz0 hz1 hz2 rfl (by decide) (.slice (some ⟨g, 0, none⟩) k c) k (flat mgF l) rfl HOW.out ⟨w3.heap.size, 0, none⟩ 1 1 [.int .i64 0, .int .i64 1] rfl rfl (fun j u hu => by rw [addr_addT, Nat.zero_add]; exact HWA.out j u hu) (by intro u hu; simp at hu; rcases hu with rfl | rfl <;> rfl) (by unfold maxLen; omega) (by omega) (HCW.out.size) ?_)
        intro ad6 c6 w6 ho6 hg6 hn6
        obtain ⟨g6, rfl, _, _⟩ := own_lt_n ho6 (by omega)
        have HO6 : Hid (MgO w6 w.heap.size g6 (k + 1) c6 (l ++ [⟨0, 1⟩])) := by
          unfold Hid MgO
          rw [flat_append, flat_one]
          exact ho6
        have HS6 : Hid (SrcP base b (m + 102 + 2 * (k + 1)) w6) := HSW.out.grown hg6 (fun q hq => by have := (HOW.out.lt q hq).1; have := HBL.out; omega)
        have HC6 : Hid (Chg b (b + 1) w w6) := HCW.out.grown hg6 (fun q hq => (HOW.out.lt q hq).1)
        have HL6 : Hid ((l ++ [(⟨0, 1⟩ : Mg)]).length = k + 1) := by unfold Hid; rw [List.length_append, HLK.out]; rfl
        clear ho6 hg6 hn6 HOW HSW HCW HWA
        go_wp2
        go_roundw
        case rel => exact ⟨k + 1, g6, c6, _, rfl, by omega, HL6.out, HO6, HS6, HC6⟩
        case measure => simp [slLen]; omega
      · have HE : Hid (l.length = k ∧ MgO w3 w.heap.size g k c l ∧ SrcP base b (m + 1000) w3 ∧ Chg b (b + 1) w w3) := ⟨HLK.out, HO.out, HS.out.mono (by omega), HC.out⟩
        clear HO HS HC HLK
        go_wp2
        go_ret
        obtain ⟨e1, e2⟩ := HE.out
        subst e1
        exact ⟨g, c, l, rfl, by omega, e2⟩
  · have q0 : (v == 0) = false := by simp; omega
    have q1 : (v == 1) = false := by simp; omega
    have q2 : (v == 2) = false := by simp; omega
    have HE : Hid (l.length = k ∧ MgO w2 w.heap.size g k c l ∧ SrcP base b (m + 1000) w2 ∧ Chg b (b + 1) w w2) := ⟨HLK.out, HO.out, HS.out.mono (by omega), HC.out⟩
    clear HO HS HC HLK h3 hv0 hv1
    go_wp2
    go_ret
    obtain ⟨e1, e2⟩ := HE.out
    subst e1
    exact ⟨g, c, l, rfl, by omega, e2⟩

end Go.Proofs.YtbjgigdkbjabaaaDoor
