/- Tab14: rows and ranks of all players: both sides. Each contract holds for every argument, under the premises that it states. -/
import Derived.Test.YtbjgigdkbjabaaaTab13
import Derived.Test.YtbjgigdkbjabaaaTabV
namespace Go.Proofs.Ytbjgigdkbjabaaa
set_option linter.unusedSimpArgs false
set_option linter.unusedVariables false
set_option linter.unnecessarySimpa false
open Go.RowKit Go.ChangeShapes Go.WideShapes Go.ChangeAt Go.Joins

def rowsR (n : Int) (l : List Mt) : List Rw := if mtsOk n l = true then rowsP n.toNat l else []
def ranksR (n : Int) (l : List Mt) : List Int := if mtsOk n l = true then ranksP n.toNat l else []
/-- numbers and a code out of a call -/
def RkRes (w : World) (xs : List Int) (k : Int) (e : Ending) (w' : World) : Prop := ∃ (a : Option Addr) (c : Nat), e = .returned (.tuple #[.slice a xs.length c, .int .i64 k]) ∧ OwnI w' w.heap.size a c xs ∧ Below w.heap.size w w'
def cntR (rows : List Rw) (x : Rw) (j : Nat) : Nat := (rows.take j).countP fun o => betterR o x
theorem cntR_succ {rows : List Rw} {x : Rw} {j : Nat} (hj : j < rows.length) : cntR rows x (j + 1) = cntR rows x j + if betterR rows[j] x = true then 1 else 0 := by
  unfold cntR
  rw [List.take_succ_eq_append_getElem hj, List.countP_append, List.countP_singleton]
theorem cntR_le (rows : List Rw) (x : Rw) (j : Nat) : cntR rows x j ≤ j := Nat.le_trans List.countP_le_length (by rw [List.length_take]; omega)
theorem rankR_cnt (rows : List Rw) (x : Rw) : rankR rows x = 1 + (cntR rows x rows.length : Int) := by
  unfold rankR cntR
  rw [List.take_length]
theorem nil_ints {w : World} (base : Nat) : OwnI w base none 0 [] := World.ownsRow_nil w base 2 1

set_option maxRecDepth 100000 in
set_option maxHeartbeats 8000000 in
theorem f6rows_c (xs : List Rw) (a b : Option Addr) (c d : Nat) (w : World) (ha : Row w a (flat rwRL.f xs)) (hb : Row w b (flat rwRL.f xs)) (hm : xs.length ≤ 1000) :
    Calls Try.prog 51 #[.slice a xs.length c, .slice b xs.length d] w fun e w' => e = .returned (.bool true) ∧ Below w.heap.size w w' := by
  have HA := Lib.hid ha
  have HB := Lib.hid hb
  clear ha hb
  go_enter Try.func51, Try.ntmps51
  go_wp2_with fail
  go_loopw [5] (fun i wr => ∃ (k : Nat), i = .int .i64 k ∧ k ≤ xs.length ∧ Hid (Below w.heap.size w wr)) (fun i _ => xs.length - (intOf i).toNat)
  case atStart => exact ⟨0, rfl, Nat.zero_le _, Lib.hid (Below.refl _ _)⟩
  case round =>
    obtain ⟨k, rfl, hk, HW⟩ := hrel
    by_cases hlt : k < xs.length
    · have hkI : (k : Int) < (xs.length : Int) := by omega
      obtain ⟨ab, ao, ha, hab, a0, a1, a2, a3, a4, a5⟩ := rw_at (HA.out.below HW.out (Nat.le_refl _)) (k := k) (x := xs[k]) (by simp [hlt])
      obtain ⟨bb, bo, hb, hbb, b0, b1, b2, b3, b4, b5⟩ := rw_at (HB.out.below HW.out (Nat.le_refl _)) (k := k) (x := xs[k]) (by simp [hlt])
      obtain ⟨x, hx⟩ : ∃ y, y = xs[k] := ⟨_, rfl⟩
      rw [← hx] at a0 a1 a2 a3 a4 a5 b0 b1 b2 b3 b4 b5
      have HAE := Lib.hid ha
      have HBE := Lib.hid hb
      have HB2 : Hid (Below w.heap.size w wr.drew) := below_next HW.out (Below.refl _ _).drew
      clear hx HW
      subst ha
      subst hb
      go_upto_region 6 with fail
      go_region
      go_wp2
      go_roundw
      case rel => exact ⟨k + 1, by go_num, by omega, HB2⟩
      case measure => simp [intOf]; omega
    · have hkI : ¬ (k : Int) < (xs.length : Int) := by omega
      go_wp2
      go_ret
      exact ⟨rfl, HW.out⟩

set_option maxRecDepth 100000 in
set_option maxHeartbeats 8000000 in
theorem iRowsOf_c (n : Int) (l : List Mt) (a : Option Addr) (c : Nat) (w : World) (h : Row w a (flat mtRL.f l)) (hm : l.length ≤ 1048576) :
    Calls Try.prog 47 #[.int .i64 n, .slice a l.length c] w (RwResC w (rowsR n l) (tableK n l)) := by
  have HH := Lib.hid h
  have HV : Hid (Calls Try.prog 53 #[.int .i64 n, .slice a l.length c] w fun e w' => e = .returned (.bool (mtsOk n l)) ∧ Below w.heap.size w w') := (ValidMatches_c n l a c w h hm).mono fun e w' hx => ⟨hx.1, by first | exact hx.2 | (obtain ⟨m, hm⟩ := hx.2; rw [hm]; exact below_draws _ _ _)⟩
  clear h
  cases hv : mtsOk n l with
  | false =>
    have HT : Hid (rowsR n l = [] ∧ tableK n l = 1) := by unfold Hid rowsR tableK; rw [hv]; exact ⟨rfl, rfl⟩
    rw [hv] at HV
    clear hv
    go_enter Try.func47, Try.ntmps47
    go_wp2_with fail
    refine HV.out.mono ?_
    rintro e w1 ⟨rfl, hb1⟩
    have HB := Lib.hid hb1
    clear hb1
    go_wp2
    go_ret2
    unfold RwResC
    rw [HT.out.1, HT.out.2]
    exact ⟨none, 0, rfl, nil_pcs _, HB.out⟩
  | true =>
    obtain ⟨⟨hn1, hn2⟩, hl, hok⟩ := mtsOk_parts hv
    obtain ⟨N, rfl⟩ : ∃ N : Nat, n = (N : Int) := ⟨n.toNat, by omega⟩
    have HT : Hid (rowsR (N : Int) l = rowsP N l ∧ tableK (N : Int) l = 0) := by unfold Hid rowsR tableK; rw [hv]; exact ⟨rfl, rfl⟩
    rw [hv] at HV
    have HR := Lib.hid (fun W (hW : Below w.heap.size w W) => rowsOf_c N l a c W (HH.out.below hW (Nat.le_refl _)) ⟨by omega, by omega⟩ hl hok)
    clear hv hn1 hn2 hl hok
    go_enter Try.func47, Try.ntmps47
    go_wp2_with fail
    refine HV.out.mono ?_
    rintro e w1 ⟨rfl, hb1⟩
    have HB1 := Lib.hid hb1
    clear hb1
    go_wp2_with fail
    refine (HR.out _ HB1.out).mono ?_
    rintro e w2 ⟨a2, c2, rfl, hp2, hb2⟩
    have HE : Hid (Pcs w2 w.heap.size (rwRL.pcs a2 c2 (rowsP N l)) ∧ Below w.heap.size w w2) := ⟨⟨fun q hq => ownsRow_le (hp2.all q hq) HB1.out.size, hp2.sep⟩, below_next HB1.out hb2⟩
    clear hp2 hb2 HR HV
    go_wp2
    go_ret2
    unfold RwResC
    rw [HT.out.1, HT.out.2]
    exact ⟨_, _, rfl, HE.out.1, HE.out.2⟩

set_option maxRecDepth 100000 in
set_option maxHeartbeats 8000000 in
theorem sRowsOf_c (n : Int) (l : List Mt) (a : Option Addr) (c : Nat) (w : World) (h : Row w a (flat mtRL.f l)) (hm : l.length ≤ 1048576) :
    Calls Try.prog 48 #[.int .i64 n, .slice a l.length c] w (RwResC w (rowsR n l) (tableK n l)) := by
  have HH := Lib.hid h
  have HV : Hid (Calls Try.prog 88 #[.int .i64 n, .slice a l.length c] w fun e w' => e = .returned (.bool (mtsOk n l)) ∧ Below w.heap.size w w') := (l26Ok_c n l a c w h hm).mono fun e w' hx => ⟨hx.1, by first | exact hx.2 | (obtain ⟨m, hm⟩ := hx.2; rw [hm]; exact below_draws _ _ _)⟩
  clear h
  cases hv : mtsOk n l with
  | false =>
    have HT : Hid (rowsR n l = [] ∧ tableK n l = 1) := by unfold Hid rowsR tableK; rw [hv]; exact ⟨rfl, rfl⟩
    rw [hv] at HV
    clear hv
    go_enter Try.func48, Try.ntmps48
    go_wp2_with fail
    refine HV.out.mono ?_
    rintro e w1 ⟨rfl, hb1⟩
    have HB := Lib.hid hb1
    clear hb1
    go_wp2
    go_ret2
    unfold RwResC
    rw [HT.out.1, HT.out.2]
    exact ⟨none, 0, rfl, nil_pcs _, HB.out⟩
  | true =>
    obtain ⟨⟨hn1, hn2⟩, hl, hok⟩ := mtsOk_parts hv
    obtain ⟨N, rfl⟩ : ∃ N : Nat, n = (N : Int) := ⟨n.toNat, by omega⟩
    have HT : Hid (rowsR (N : Int) l = rowsP N l ∧ tableK (N : Int) l = 0) := by unfold Hid rowsR tableK; rw [hv]; exact ⟨rfl, rfl⟩
    rw [hv] at HV
    have HR := Lib.hid (fun W (hW : Below w.heap.size w W) => l26Rows_c N l a c W (HH.out.below hW (Nat.le_refl _)) ⟨by omega, by omega⟩ hl hok)
    clear hv hn1 hn2 hl hok
    go_enter Try.func48, Try.ntmps48
    go_wp2_with fail
    refine HV.out.mono ?_
    rintro e w1 ⟨rfl, hb1⟩
    have HB1 := Lib.hid hb1
    clear hb1
    go_wp2_with fail
    refine (HR.out _ HB1.out).mono ?_
    rintro e w2 ⟨a2, c2, rfl, hp2, hb2⟩
    have HE : Hid (Pcs w2 w.heap.size (rwRL.pcs a2 c2 (rowsP N l)) ∧ Below w.heap.size w w2) := ⟨⟨fun q hq => ownsRow_le (hp2.all q hq) HB1.out.size, hp2.sep⟩, below_next HB1.out hb2⟩
    clear hp2 hb2 HR HV
    go_wp2
    go_ret2
    unfold RwResC
    rw [HT.out.1, HT.out.2]
    exact ⟨_, _, rfl, HE.out.1, HE.out.2⟩

set_option maxRecDepth 100000 in
set_option maxHeartbeats 8000000 in
theorem ranks_c (n : Nat) (l : List Mt) (a : Option Addr) (c : Nat) (w : World) (h : Row w a (flat mtRL.f l)) (hn : 2 ≤ n ∧ n ≤ 12) (hl : l.length ≤ 150) (hok : ∀ m ∈ l, m.ok (n : Int) = true) :
    Calls Try.prog 99 #[.int .i64 (n : Int), .slice a l.length c] w fun e w' => ∃ (a' : Option Addr) (c' : Nat), e = .returned (.slice a' (ranksP n l).length c') ∧ OwnI w' w.heap.size a' c' (ranksP n l) ∧ Below w.heap.size w w' := by
  obtain ⟨i0, hi, hz0, hz1, hz2⟩ := info_parts infoI
  have HR := Lib.hid (rowsOf_c n l a c w h hn hl hok)
  have HLN := Lib.hid (rowsP_len n l)
  have HNN := Lib.hid hn
  unfold ranksP
  clear h hok hl hn
  revert HR HLN
  generalize rowsP n l = L
  intro HR HLN
  go_enter Try.func99, Try.ntmps99
  go_wp2_with fail
  refine HR.out.mono ?_
  rintro e w1 ⟨a1, c1, rfl, hp1, hb1⟩
  clear HR
  obtain ⟨g1, rfl, hg1, hg2⟩ := RL.at hp1.mk' (by have := HLN.out; have := HNN.out; omega)
  have HP1 := Lib.hid hp1.mk'
  have HB1 := Lib.hid hb1
  have HB0 : Hid (Below w1.heap.size w1 (w1.alloc (.cells #[] 2))) := below_alloc1 _ _
  have HO0 : Hid (OwnI (w1.alloc (.cells #[] 2)) w1.heap.size (some ⟨w1.heap.size, 0, none⟩) 0 []) := World.ownsRow_lit (base := w1.heap.size) (e := 2) (size := 1) w1 #[] 0 (Nat.le_refl _) (Nat.zero_le _) rfl
  clear hp1 hb1 hg1 hg2
  go_upto_region 3 with fail
  go_loopw [6, 18] (fun s i wr => ∃ (k : Nat) (ad : Option Addr) (cd : Nat), i = .int .i64 k ∧ s = .slice ad k cd ∧ k ≤ L.length ∧ Hid (wr.ownsRow w1.heap.size 2 1 (.slice ad k cd) k (((L.take k).map (rankR L)).map (Value.int .i64))) ∧ Hid (Below w1.heap.size w1 wr)) (fun _ i _ => L.length - (intOf i).toNat)
  case atStart => exact ⟨0, _, _, rfl, rfl, Nat.zero_le _, HO0, HB0⟩
  case round =>
    clear HO0 HB0
    obtain ⟨k, ad, cd, rfl, rfl, hk, HO, HB⟩ := hrel
    by_cases hlt : k < L.length
    · have hkI : (k : Int) < (L.length : Int) := by omega
      obtain ⟨x, hx⟩ : ∃ x, x = L[k] := ⟨_, rfl⟩
      have hxk : L[k]? = some x := by rw [hx]; exact List.getElem?_eq_getElem hlt
      obtain ⟨x0, x1, x2, x3, x4, x5⟩ := rw_cells (HP1.out.below HB.out) hxk
      have HMP : Hid ((L.take (k + 1)).map (rankR L) = (L.take k).map (rankR L) ++ [rankR L x]) := by unfold Hid; rw [List.take_succ_eq_append_getElem hlt, List.map_append, hx]; rfl
      have FX := (Fr.start wr).alloc (Rw.cells x) 84
      obtain ⟨Wx, hWx⟩ : ∃ W, W = wr.alloc (.cells (Rw.cells x) 84) := ⟨_, rfl⟩
      rw [← hWx] at FX
      have HBX : Hid (BoxP wr.heap.size (Rw.cells x).toList Wx) := FX.at 0 rfl
      obtain ⟨bx, hbx⟩ : ∃ b, b = wr.heap.size := ⟨_, rfl⟩
      rw [← hbx] at HBX
      have HBL : Hid (bx < Wx.heap.size) := by have : wr.heap.size + 1 ≤ Wx.heap.size := FX.le 0 rfl; unfold Hid; omega
      have HBW := Lib.hid (below_next HB.out FX.below)
      have HOW : Hid (Wx.ownsRow w1.heap.size 2 1 (.slice ad k cd) k (((L.take k).map (rankR L)).map (Value.int .i64))) := own_below HO.out FX.below (Nat.le_refl _)
      unfold Rw.cells at hWx
      have HWX := Lib.hid hWx
      have HBE := Lib.hid hbx
      clear hx hxk HO HB FX hWx hbx
      go_upto_region 5 with fail
      rw [← HWX.out, ← HBE.out]
      clear HWX HBE x0 x1 x2 x3 x4 x5
      go_wp2_with fail
      go_loopw [9, 24] (fun v i wr2 => ∃ (j : Nat), i = .int .i64 j ∧ v = .int .i64 (1 + (cntR L x j : Int)) ∧ j ≤ L.length ∧ Hid (Below Wx.heap.size Wx wr2)) (fun _ i _ => L.length - (intOf i).toNat)
      case atStart => exact ⟨0, rfl, rfl, Nat.zero_le _, Lib.hid (Below.refl _ _)⟩
      case round =>
        obtain ⟨j, rfl, rfl, hj, HBI⟩ := hrel
        by_cases hjl : j < L.length
        · have hjI : (j : Int) < (L.length : Int) := by omega
          obtain ⟨y, hy⟩ : ∃ y, y = L[j] := ⟨_, rfl⟩
          have hyk : L[j]? = some y := by rw [hy]; exact List.getElem?_eq_getElem hjl
          obtain ⟨y0, y1, y2, y3, y4, y5⟩ := rw_cells (HP1.out.below (below_next HBW.out HBI.out)) hyk
          have hsc := cntR_succ (x := x) hjl
          rw [← hy] at hsc
          have HSC := Lib.hid hsc
          have hle := cntR_le L x j
          have FY := (Fr.start wr).alloc (Rw.cells y) 84
          obtain ⟨Wy, hWy⟩ : ∃ W, W = wr.alloc (.cells (Rw.cells y) 84) := ⟨_, rfl⟩
          rw [← hWy] at FY
          have hyb : BoxP wr.heap.size (Rw.cells y).toList Wy := FY.at 0 rfl
          obtain ⟨by_, hby⟩ : ∃ b, b = wr.heap.size := ⟨_, rfl⟩
          rw [← hby] at hyb
          have HYB := Lib.hid hyb
          have HBY := Lib.hid (below_next HBI.out FY.below)
          have HXB : Hid (BoxP bx (Rw.cells x).toList Wy) := fun k' v hv => (HBY.out.cell (show (Addr.mk bx k' none).block < _ from HBL.out)).trans (HBX.out k' v hv)
          unfold Rw.cells at hWy
          have HWY := Lib.hid hWy
          have HBYE := Lib.hid hby
          have HNL : Hid (L.length ≤ 12) := by have := HLN.out; have := HNN.out; unfold Hid; omega
          clear hy hyk hsc HBI FY hWy hby hyb
          go_upto_region 9 with fail
          rw [← HWY.out, ← HBYE.out]
          clear HWY HBYE y0 y1 y2 y3 y4 y5
          obtain ⟨u0, u1, u2, u3, u4, u5⟩ := (⟨HXB.out 0 _ rfl, HXB.out 1 _ rfl, HXB.out 2 _ rfl, HXB.out 3 _ rfl, HXB.out 4 _ rfl, HXB.out 5 _ rfl⟩ : _ ∧ _ ∧ _ ∧ _ ∧ _ ∧ _)
          obtain ⟨v0, v1, v2, v3, v4, v5⟩ := (⟨HYB.out 0 _ rfl, HYB.out 1 _ rfl, HYB.out 2 _ rfl, HYB.out 3 _ rfl, HYB.out 4 _ rfl, HYB.out 5 _ rfl⟩ : _ ∧ _ ∧ _ ∧ _ ∧ _ ∧ _)
          go_wp2_with fail
          refine (better_c y x _).mono ?_
          rintro e w3 ⟨rfl, hb3⟩
          have HB3 := Lib.hid (below_next HBY.out hb3)
          have hL12 := HNL.out
          have hw1 : IntKind.i64.wrap (1 + (cntR L x j : Int) + 1) = 1 + (cntR L x j : Int) + 1 := IntWalk.i64_in _ (by omega)
          have hw2 : IntKind.i64.wrap ((j : Int) + 1) = (j : Int) + 1 := IntWalk.i64_in _ (by omega)
          clear hb3 u0 u1 u2 u3 u4 u5 v0 v1 v2 v3 v4 v5
          cases hb : betterR y x with
          | true =>
            have HS2 : Hid (cntR L x (j + 1) = cntR L x j + 1) := by unfold Hid; rw [HSC.out, hb, if_pos rfl]
            clear hb
            go_wp2
            go_roundw
            case rel => exact ⟨j + 1, by go_num, by rw [HS2.out]; go_num, by omega, HB3⟩
            case measure => simp [intOf]; omega
          | false =>
            have HS2 : Hid (cntR L x (j + 1) = cntR L x j) := by unfold Hid; rw [HSC.out, hb, if_neg (by simp)]; rfl
            clear hb
            go_wp2
            go_roundw
            case rel => exact ⟨j + 1, by go_num, by rw [HS2.out], by omega, HB3⟩
            case measure => simp [intOf]; omega
        · have hjE : j = L.length := by omega
          subst hjE
          have hrk : rankR L x = 1 + (cntR L x L.length : Int) := rankR_cnt L x
          rw [← hrk]
          obtain ⟨rk, hrke⟩ : ∃ r, r = rankR L x := ⟨_, rfl⟩
          rw [← hrke]
          rw [← hrke] at HMP
          have FV := (Fr.start wr).alloc #[.int .i64 rk] 2
          have HBX2 : Hid (BoxP wr.heap.size [.int .i64 rk] (wr.alloc (.cells #[.int .i64 rk] 2))) := FV.at 0 rfl
          obtain ⟨V, hV⟩ : ∃ V, V = ((L.take k).map (rankR L)).map (Value.int .i64) := ⟨_, rfl⟩
          rw [← hV] at HOW
          have HVE := Lib.hid hV
          clear hV
          have HOI : Hid ((wr.alloc (.cells #[.int .i64 rk] 2)).ownsRow w1.heap.size 2 1 (.slice ad k cd) k V) := own_below HOW.out (below_next HBI.out (below_alloc1 _ _)) (Nat.le_refl _)
          have HBJ : Hid (Below w1.heap.size w1 (wr.alloc (.cells #[.int .i64 rk] 2))) := below_next (below_next HBW.out HBI.out) (below_alloc1 _ _)
          have HKL : Hid (k < 12) := by have := HLN.out; have := HNN.out; unfold Hid; omega
          clear HOW HBI hrk hrke FV
          go_wp2_with (at_builtin; refine wpList_append_own2 _ rfl _ _ 24 rfl w1.heap.size 2 i0 (.int .i64 0) 1 8 Try.underlying24 hi hz0 hz1 hz2 rfl (by decide) (.slice ad k cd) k V rfl HOI.out ⟨wr.heap.size, 0, none⟩ 1 1 [.int .i64 rk] rfl rfl (fun j u hu => by rw [addr_addT, Nat.zero_add]; exact HBX2.out j u hu) (by intro u hu; simp at hu; subst hu; rfl) (by have := HKL.out; unfold maxLen; omega) (by have := HKL.out; omega) (HBJ.out.size) ?_)
          intro ad6 c6 w6 ho6 hg6 hn6
          have HO6 : Hid (w6.ownsRow w1.heap.size 2 1 (.slice ad6 (k + 1) c6) (k + 1) (((L.take (k + 1)).map (rankR L)).map (Value.int .i64))) := by
            unfold Hid
            rw [HMP.out, List.map_append, ← HVE.out]
            exact ho6
          have HB6 := Lib.hid (below_grown HBJ.out hg6 (fun q hq => (HOI.out.lt q hq).1))
          have hk12 := HKL.out
          have hwk : IntKind.i64.wrap ((k : Int) + 1) = (k : Int) + 1 := IntWalk.i64_in _ (by omega)
          clear ho6 hg6 hn6 HOI HBX2
          go_wp2
          go_roundw
          case rel => exact ⟨k + 1, ad6, c6, by go_num, rfl, by omega, HO6, HB6⟩
          case measure => simp [intOf]; omega
    · have hkl : k = L.length := by omega
      subst hkl
      have ho := HO.out
      rw [List.take_length] at ho
      have hlen : ((L.map (rankR L))).length = L.length := List.length_map _
      have HE : Hid (wr.ownsRow w.heap.size 2 1 (.slice ad L.length cd) L.length ((L.map (rankR L)).map (Value.int .i64)) ∧ Below w.heap.size w wr) := ⟨ownsRow_le ho HB1.out.size, HB1.out.trans (HB.out.mono HB1.out.size)⟩
      have HLE := Lib.hid hlen
      clear ho HO HB
      go_wp2
      go_ret
      refine ⟨ad, cd, by rw [HLE.out]; rfl, ?_, HE.out.2⟩
      unfold OwnI
      rw [HLE.out]
      exact HE.out.1

end Go.Proofs.Ytbjgigdkbjabaaa
