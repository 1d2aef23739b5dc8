/- Tab15: ranks of all players: the reference's function, and both fronts. Each contract holds for every argument, under the premises that it states. -/
import Derived.Test.YtbjgigdkbjabaaaTab14
namespace Go.Proofs.Ytbjgigdkbjabaaa
set_option linter.unusedSimpArgs false
set_option linter.unusedVariables false
set_option linter.unnecessarySimpa false
open Go.RowKit Go.ChangeShapes Go.WideShapes Go.ChangeAt Go.Joins

set_option maxRecDepth 100000 in
set_option maxHeartbeats 8000000 in
theorem l26Ranks_c (n : Nat) (l : List Mt) (a : Option Addr) (c : Nat) (w : World) (h : Row w a (flat mtRL.f l)) (hn : 2 ≤ n ∧ n ≤ 12) (hl : l.length ≤ 150) (hok : ∀ m ∈ l, m.ok (n : Int) = true) :
    Calls Try.prog 100 #[.int .i64 (n : Int), .slice a l.length c] w fun e w' => ∃ (a' : Option Addr) (c' : Nat), e = .returned (.slice a' (ranksP n l).length c') ∧ OwnI w' w.heap.size a' c' (ranksP n l) ∧ Below w.heap.size w w' := by
  obtain ⟨i0, hi, hz0, hz1, hz2⟩ := info_parts infoI
  have HR := Lib.hid (l26Rows_c n l a c w h hn hl hok)
  have HSM := Lib.hid (rowsP_sm hok hl)
  have HLN := Lib.hid (rowsP_len n l)
  have HNN := Lib.hid hn
  unfold ranksP
  clear h hok hl hn
  revert HR HLN HSM
  generalize rowsP n l = L
  intro HR HSM HLN
  go_enter Try.func100, Try.ntmps100
  go_wp2_with fail
  refine HR.out.mono ?_
  rintro e w1 ⟨a1, c1, rfl, hp1, hb1⟩
  clear HR
  obtain ⟨g1, rfl, hg1, hg2⟩ := RL.at hp1.mk' (by have := HLN.out; have := HNN.out; omega)
  have HP1 := Lib.hid hp1.mk'
  have HB1 := Lib.hid hb1
  have HB0 : Hid (Below w1.heap.size w1 (w1.alloc (.cells #[] 2))) := below_alloc1 _ _
  have HO0 : Hid (OwnI (w1.alloc (.cells #[] 2)) w1.heap.size (some ⟨w1.heap.size, 0, none⟩) 0 []) := World.ownsRow_lit (base := w1.heap.size) (e := 2) (size := 1) w1 #[] 0 (Nat.le_refl _) (Nat.zero_le _) rfl
  clear hp1 hb1 hg1 hg2
  go_upto_region 4 with fail
  go_loopw [6, 7] (fun s i wr => ∃ (k : Nat) (ad : Option Addr) (cd : Nat), i = .int .i64 k ∧ s = .slice ad k cd ∧ k ≤ L.length ∧ Hid (wr.ownsRow w1.heap.size 2 1 (.slice ad k cd) k (((L.take k).map (rankR L)).map (Value.int .i64))) ∧ Hid (Below w1.heap.size w1 wr)) (fun _ i _ => L.length - (intOf i).toNat)
  case atStart => exact ⟨0, _, _, rfl, rfl, Nat.zero_le _, HO0, HB0⟩
  case round =>
    clear HO0 HB0
    obtain ⟨k, ad, cd, rfl, rfl, hk, HO, HB⟩ := hrel
    by_cases hlt : k < L.length
    · have hkI : (k : Int) < (L.length : Int) := by omega
      obtain ⟨x, hx⟩ : ∃ x, x = L[k] := ⟨_, rfl⟩
      have hxk : L[k]? = some x := by rw [hx]; exact List.getElem?_eq_getElem hlt
      have HXK := Lib.hid hxk
      have HMP : Hid ((L.take (k + 1)).map (rankR L) = (L.take k).map (rankR L) ++ [rankR L x]) := by unfold Hid; rw [List.take_succ_eq_append_getElem hlt, List.map_append, hx]; rfl
      obtain ⟨Wx, hWx⟩ : ∃ W, W = wr := ⟨_, rfl⟩
      subst hWx
      have HBW := HB
      have HOW := HO
      have HXS : Hid x.Sm := HSM.out x (List.mem_of_getElem? hxk)
      clear hx hxk HO HB
      go_wp2_with fail
      go_loopw [8, 9] (fun v i wr2 => ∃ (j : Nat), i = .int .i64 j ∧ v = .int .i64 (1 + (cntR L x j : Int)) ∧ j ≤ L.length ∧ Hid (Below Wx.heap.size Wx wr2)) (fun _ i _ => L.length - (intOf i).toNat)
      case atStart => exact ⟨0, rfl, rfl, Nat.zero_le _, Lib.hid (Below.refl _ _)⟩
      case round =>
        obtain ⟨j, rfl, rfl, hj, HBI⟩ := hrel
        by_cases hjl : j < L.length
        · have hjI : (j : Int) < (L.length : Int) := by omega
          obtain ⟨y, hy⟩ : ∃ y, y = L[j] := ⟨_, rfl⟩
          have hyk : L[j]? = some y := by rw [hy]; exact List.getElem?_eq_getElem hjl
          have HBD : Hid (Below w1.heap.size w1 wr.drew) := below_next (below_next HBW.out HBI.out) (Below.refl _ _).drew
          obtain ⟨y0, y1, y2, y3, y4, y5⟩ := rw_cells (HP1.out.below HBD.out) hyk
          obtain ⟨x0, x1, x2, x3, x4, x5⟩ := rw_cells (HP1.out.below HBD.out) HXK.out
          have HYS : y.Sm := HSM.out y (List.mem_of_getElem? hyk)
          have hsc := cntR_succ (x := x) hjl
          rw [← hy] at hsc
          have HSC := Lib.hid hsc
          have hle := cntR_le L x j
          have HBJ : Hid (Below Wx.heap.size Wx wr.drew) := below_next HBI.out (Below.refl _ _).drew
          have HCM := Lib.hid (l26Compare_c g1 g1 (j * 6) (k * 6) y x wr.drew y1 y2 y4 y5 x1 x2 x4 x5 HYS HXS.out)
          obtain ⟨C, hC⟩ : ∃ C, C = cmpR y x := ⟨_, rfl⟩
          have HBC : Hid (betterR y x = decide (0 < C)) := by unfold Hid betterR; rw [hC]
          rw [← hC] at HCM
          have HNL : Hid (L.length ≤ 12) := by have := HLN.out; have := HNN.out; unfold Hid; omega
          have hL12 := HNL.out
          have hw1 : IntKind.i64.wrap (1 + (cntR L x j : Int) + 1) = 1 + (cntR L x j : Int) + 1 := IntWalk.i64_in _ (by omega)
          have hw2 : IntKind.i64.wrap ((j : Int) + 1) = (j : Int) + 1 := IntWalk.i64_in _ (by omega)
          clear hy hyk hsc y0 y1 y2 y3 y4 y5 x0 x1 x2 x3 x4 x5 HYS hC HBI
          go_wp2_with fail
          refine heldH (S := fun _ => True) (n := 8) (listed := #[false, false, false, false, false, false, false, false]) (by kernel_rfl) (by rfl) (by rfl) ?_ (fun hHeld => ?_)
          (focus ((try dsimp only); (first | done | ((trivial); done))))
          (refine takeH (i := 0) (v := ?_) (by decide +kernel) (by decide +kernel) (by kernel_rfl) (by rfl) (by exact fun _ _ _ h => h) (by rfl) ?_ (by assumption) ?_); rotate_left; (focus (intro w hSw; (try dsimp only at hSw); go_simp; (try with_reducible rfl); done)); (try simp only [Act.put, List.setIfInBounds_toArray, List.set_cons_zero, List.set_cons_succ])
          (refine takeH (i := 1) (v := ?_) (by decide +kernel) (by decide +kernel) (by kernel_rfl) (by rfl) (by exact fun _ _ _ h => h) (by rfl) ?_ (by assumption) ?_); rotate_left; (focus (intro w hSw; (try dsimp only at hSw); go_simp; (try with_reducible rfl); done)); (try simp only [Act.put, List.setIfInBounds_toArray, List.set_cons_zero, List.set_cons_succ])
          (refine takeH (i := 2) (v := ?_) (by decide +kernel) (by decide +kernel) (by kernel_rfl) (by rfl) (by exact fun _ _ _ h => h) (by rfl) ?_ (by assumption) ?_); rotate_left; (focus (intro w hSw; (try dsimp only at hSw); go_simp; (try with_reducible rfl); done)); (try simp only [Act.put, List.setIfInBounds_toArray, List.set_cons_zero, List.set_cons_succ])
          (refine takeH (i := 3) (v := ?_) (by decide +kernel) (by decide +kernel) (by kernel_rfl) (by rfl) (by exact fun _ _ _ h => h) (by rfl) ?_ (by assumption) ?_); rotate_left; (focus (intro w hSw; (try dsimp only at hSw); go_simp; (try with_reducible rfl); done)); (try simp only [Act.put, List.setIfInBounds_toArray, List.set_cons_zero, List.set_cons_succ])
          (refine takeH (i := 4) (v := ?_) (by decide +kernel) (by decide +kernel) (by kernel_rfl) (by rfl) (by exact fun _ _ _ h => h) (by rfl) ?_ (by assumption) ?_); rotate_left; (focus (intro w hSw; (try dsimp only at hSw); go_simp; (try with_reducible rfl); done)); (try simp only [Act.put, List.setIfInBounds_toArray, List.set_cons_zero, List.set_cons_succ])
          (refine takeH (i := 5) (v := ?_) (by decide +kernel) (by decide +kernel) (by kernel_rfl) (by rfl) (by exact fun _ _ _ h => h) (by rfl) ?_ (by assumption) ?_); rotate_left; (focus (intro w hSw; (try dsimp only at hSw); go_simp; (try with_reducible rfl); done)); (try simp only [Act.put, List.setIfInBounds_toArray, List.set_cons_zero, List.set_cons_succ])
          refine nextH (i := 6) (by decide +kernel) (by rfl) (by rfl) (fun K hK => ?_)
          (go_simp; go_at_call 136; (refine HCM.out.mono ?_); (rintro e U ⟨rfl, hU⟩); (have HBU : Hid (Below Wx.heap.size Wx U) := by obtain ⟨m, rfl⟩ := hU; exact below_next HBJ.out (below_draws _ _ _)); (clear hU))
          refine hK.out _ _ ?_ (fun hHeld' => ?_)
          (focus ((try dsimp only); (first | done | ((trivial); done))))
          clear hK K hHeld
          have hHeld := hHeld'
          clear hHeld'
          (try simp only [Act.put, List.setIfInBounds_toArray, List.set_cons_zero, List.set_cons_succ])
          (refine takeH (i := 7) (v := ?_) (by decide +kernel) (by decide +kernel) (by kernel_rfl) (by rfl) (by exact fun _ _ _ h => h) (by rfl) ?_ (by assumption) ?_); rotate_left; (focus (intro w hSw; (try dsimp only at hSw); go_simp; (try with_reducible rfl); done)); (try simp only [Act.put, List.setIfInBounds_toArray, List.set_cons_zero, List.set_cons_succ])
          refine wpAnyH_done (by decide +kernel) ?_ _
          clear hHeld
          cases hb : betterR y x with
          | true =>
            have HS2 : Hid (cntR L x (j + 1) = cntR L x j + 1) := by unfold Hid; rw [HSC.out, hb, if_pos rfl]
            have hcz : 0 < C := by have := HBC.out; rw [hb] at this; exact of_decide_eq_true this.symm
            clear hb
            go_wp2
            go_roundw
            case rel => exact ⟨j + 1, by go_num, by rw [HS2.out]; go_num, by omega, HBU⟩
            case measure => simp [intOf]; omega
          | false =>
            have HS2 : Hid (cntR L x (j + 1) = cntR L x j) := by unfold Hid; rw [HSC.out, hb, if_neg (by simp)]; rfl
            have hcz : ¬ 0 < C := by have := HBC.out; rw [hb] at this; exact of_decide_eq_false this.symm
            clear hb
            go_wp2
            go_roundw
            case rel => exact ⟨j + 1, by go_num, by rw [HS2.out], by omega, HBU⟩
            case measure => simp [intOf]; omega
        · have hjE : j = L.length := by omega
          subst hjE
          have hrk : rankR L x = 1 + (cntR L x L.length : Int) := rankR_cnt L x
          rw [← hrk]
          obtain ⟨rk, hrke⟩ : ∃ r, r = rankR L x := ⟨_, rfl⟩
          rw [← hrke]
          rw [← hrke] at HMP
          have FV := (Fr.start wr).alloc #[.int .i64 rk] 2
          have HBX2 : Hid (BoxP wr.heap.size [.int .i64 rk] (wr.alloc (.cells #[.int .i64 rk] 2))) := FV.at 0 rfl
          obtain ⟨V, hV⟩ : ∃ V, V = ((L.take k).map (rankR L)).map (Value.int .i64) := ⟨_, rfl⟩
          rw [← hV] at HOW
          have HVE := Lib.hid hV
          clear hV
          have HOI : Hid ((wr.alloc (.cells #[.int .i64 rk] 2)).ownsRow w1.heap.size 2 1 (.slice ad k cd) k V) := own_below HOW.out (below_next HBI.out (below_alloc1 _ _)) (Nat.le_refl _)
          have HBJ : Hid (Below w1.heap.size w1 (wr.alloc (.cells #[.int .i64 rk] 2))) := below_next (below_next HBW.out HBI.out) (below_alloc1 _ _)
          have HKL : Hid (k < 12) := by have := HLN.out; have := HNN.out; unfold Hid; omega
          clear HOW HBI hrk hrke FV
          go_wp2_with (at_builtin; refine wpList_append_own2 _ rfl _ _ 24 rfl w1.heap.size 2 i0 (.int .i64 0) 1 8 Try.underlying24 hi hz0 hz1 hz2 rfl (by decide) (.slice ad k cd) k V rfl HOI.out ⟨wr.heap.size, 0, none⟩ 1 1 [.int .i64 rk] rfl rfl (fun j u hu => by rw [addr_addT, Nat.zero_add]; exact HBX2.out j u hu) (by intro u hu; simp at hu; subst hu; rfl) (by have := HKL.out; unfold maxLen; omega) (by have := HKL.out; omega) (HBJ.out.size) ?_)
          intro ad6 c6 w6 ho6 hg6 hn6
          have HO6 : Hid (w6.ownsRow w1.heap.size 2 1 (.slice ad6 (k + 1) c6) (k + 1) (((L.take (k + 1)).map (rankR L)).map (Value.int .i64))) := by
            unfold Hid
            rw [HMP.out, List.map_append, ← HVE.out]
            exact ho6
          have HB6 := Lib.hid (below_grown HBJ.out hg6 (fun q hq => (HOI.out.lt q hq).1))
          have hk12 := HKL.out
          have hwk : IntKind.i64.wrap ((k : Int) + 1) = (k : Int) + 1 := IntWalk.i64_in _ (by omega)
          clear ho6 hg6 hn6 HOI HBX2
          go_wp2
          go_roundw
          case rel => exact ⟨k + 1, ad6, c6, by go_num, rfl, by omega, HO6, HB6⟩
          case measure => simp [intOf]; omega
    · have hkl : k = L.length := by omega
      subst hkl
      have ho := HO.out
      rw [List.take_length] at ho
      have hlen : ((L.map (rankR L))).length = L.length := List.length_map _
      have HE : Hid (wr.ownsRow w.heap.size 2 1 (.slice ad L.length cd) L.length ((L.map (rankR L)).map (Value.int .i64)) ∧ Below w.heap.size w wr) := ⟨ownsRow_le ho HB1.out.size, HB1.out.trans (HB.out.mono HB1.out.size)⟩
      have HLE := Lib.hid hlen
      clear ho HO HB
      go_wp2
      go_ret
      refine ⟨ad, cd, by rw [HLE.out]; rfl, ?_, HE.out.2⟩
      unfold OwnI
      rw [HLE.out]
      exact HE.out.1

set_option maxRecDepth 100000 in
set_option maxHeartbeats 8000000 in
theorem iRanksOf_c (n : Int) (l : List Mt) (a : Option Addr) (c : Nat) (w : World) (h : Row w a (flat mtRL.f l)) (hm : l.length ≤ 1048576) :
    Calls Try.prog 49 #[.int .i64 n, .slice a l.length c] w (RkRes w (ranksR n l) (tableK n l)) := by
  have HH := Lib.hid h
  have HV : Hid (Calls Try.prog 53 #[.int .i64 n, .slice a l.length c] w fun e w' => e = .returned (.bool (mtsOk n l)) ∧ Below w.heap.size w w') := (ValidMatches_c n l a c w h hm).mono fun e w' hx => ⟨hx.1, by first | exact hx.2 | (obtain ⟨m, hm⟩ := hx.2; rw [hm]; exact below_draws _ _ _)⟩
  clear h
  cases hv : mtsOk n l with
  | false =>
    have HT : Hid (ranksR n l = [] ∧ tableK n l = 1) := by unfold Hid ranksR tableK; rw [hv]; exact ⟨rfl, rfl⟩
    rw [hv] at HV
    clear hv
    go_enter Try.func49, Try.ntmps49
    go_wp2_with fail
    refine HV.out.mono ?_
    rintro e w1 ⟨rfl, hb1⟩
    have HB := Lib.hid hb1
    clear hb1
    go_wp2
    go_ret2
    unfold RkRes
    rw [HT.out.1, HT.out.2]
    exact ⟨none, 0, rfl, nil_ints _, HB.out⟩
  | true =>
    obtain ⟨⟨hn1, hn2⟩, hl, hok⟩ := mtsOk_parts hv
    obtain ⟨N, rfl⟩ : ∃ N : Nat, n = (N : Int) := ⟨n.toNat, by omega⟩
    have HT : Hid (ranksR (N : Int) l = ranksP N l ∧ tableK (N : Int) l = 0) := by unfold Hid ranksR tableK; rw [hv]; exact ⟨rfl, rfl⟩
    rw [hv] at HV
    have HR := Lib.hid (fun W (hW : Below w.heap.size w W) => ranks_c N l a c W (HH.out.below hW (Nat.le_refl _)) ⟨by omega, by omega⟩ hl hok)
    clear hv hn1 hn2 hl hok
    go_enter Try.func49, Try.ntmps49
    go_wp2_with fail
    refine HV.out.mono ?_
    rintro e w1 ⟨rfl, hb1⟩
    have HB1 := Lib.hid hb1
    clear hb1
    go_wp2_with fail
    refine (HR.out _ HB1.out).mono ?_
    rintro e w2 ⟨a2, c2, rfl, hp2, hb2⟩
    have HE : Hid (OwnI w2 w.heap.size a2 c2 (ranksP N l) ∧ Below w.heap.size w w2) := ⟨ownsRow_le hp2 HB1.out.size, below_next HB1.out hb2⟩
    clear hp2 hb2 HR HV
    go_wp2
    go_ret2
    unfold RkRes
    rw [HT.out.1, HT.out.2]
    exact ⟨_, _, rfl, HE.out.1, HE.out.2⟩

set_option maxRecDepth 100000 in
set_option maxHeartbeats 8000000 in
theorem sRanksOf_c (n : Int) (l : List Mt) (a : Option Addr) (c : Nat) (w : World) (h : Row w a (flat mtRL.f l)) (hm : l.length ≤ 1048576) :
    Calls Try.prog 50 #[.int .i64 n, .slice a l.length c] w (RkRes w (ranksR n l) (tableK n l)) := by
  have HH := Lib.hid h
  have HV : Hid (Calls Try.prog 88 #[.int .i64 n, .slice a l.length c] w fun e w' => e = .returned (.bool (mtsOk n l)) ∧ Below w.heap.size w w') := (l26Ok_c n l a c w h hm).mono fun e w' hx => ⟨hx.1, by first | exact hx.2 | (obtain ⟨m, hm⟩ := hx.2; rw [hm]; exact below_draws _ _ _)⟩
  clear h
  cases hv : mtsOk n l with
  | false =>
    have HT : Hid (ranksR n l = [] ∧ tableK n l = 1) := by unfold Hid ranksR tableK; rw [hv]; exact ⟨rfl, rfl⟩
    rw [hv] at HV
    clear hv
    go_enter Try.func50, Try.ntmps50
    go_wp2_with fail
    refine HV.out.mono ?_
    rintro e w1 ⟨rfl, hb1⟩
    have HB := Lib.hid hb1
    clear hb1
    go_wp2
    go_ret2
    unfold RkRes
    rw [HT.out.1, HT.out.2]
    exact ⟨none, 0, rfl, nil_ints _, HB.out⟩
  | true =>
    obtain ⟨⟨hn1, hn2⟩, hl, hok⟩ := mtsOk_parts hv
    obtain ⟨N, rfl⟩ : ∃ N : Nat, n = (N : Int) := ⟨n.toNat, by omega⟩
    have HT : Hid (ranksR (N : Int) l = ranksP N l ∧ tableK (N : Int) l = 0) := by unfold Hid ranksR tableK; rw [hv]; exact ⟨rfl, rfl⟩
    rw [hv] at HV
    have HR := Lib.hid (fun W (hW : Below w.heap.size w W) => l26Ranks_c N l a c W (HH.out.below hW (Nat.le_refl _)) ⟨by omega, by omega⟩ hl hok)
    clear hv hn1 hn2 hl hok
    go_enter Try.func50, Try.ntmps50
    go_wp2_with fail
    refine HV.out.mono ?_
    rintro e w1 ⟨rfl, hb1⟩
    have HB1 := Lib.hid hb1
    clear hb1
    go_wp2_with fail
    refine (HR.out _ HB1.out).mono ?_
    rintro e w2 ⟨a2, c2, rfl, hp2, hb2⟩
    have HE : Hid (OwnI w2 w.heap.size a2 c2 (ranksP N l) ∧ Below w.heap.size w w2) := ⟨ownsRow_le hp2 HB1.out.size, below_next HB1.out hb2⟩
    clear hp2 hb2 HR HV
    go_wp2
    go_ret2
    unfold RkRes
    rw [HT.out.1, HT.out.2]
    exact ⟨_, _, rfl, HE.out.1, HE.out.2⟩

end Go.Proofs.Ytbjgigdkbjabaaa
