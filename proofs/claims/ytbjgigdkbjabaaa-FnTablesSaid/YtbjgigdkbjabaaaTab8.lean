/- Tab8: rows of a table, sorted by the library's insertion sort. Each contract holds for every argument, under the premises that it states. -/
import Derived.Test.YtbjgigdkbjabaaaTab7
namespace Go.Proofs.Ytbjgigdkbjabaaa
set_option linter.unusedSimpArgs false
set_option linter.unusedVariables false
set_option linter.unnecessarySimpa false
open Go.RowKit Go.ChangeShapes Go.WideShapes Go.ChangeAt Go.Joins

set_option maxRecDepth 100000 in
set_option maxHeartbeats 8000000 in
theorem insSort_c (lo hi ob g c : Nat) (l : List Rw) (w : World) (h : RsSt w lo hi ob g c l) (hl : 1 ≤ l.length ∧ l.length ≤ 12) (hhi : hi ≤ w.heap.size) :
    Calls Try.prog 173 #[.agg #[.func (.func 93) #[] (capR ob), .func (.func 172) #[] (swB g l.length c)], .int .i64 0, .int .i64 l.length] w fun e w' => e = .returned (.tuple #[]) ∧ RsSt w' lo hi ob g c (srtR l) ∧ ∃ W0, Below w.heap.size w W0 ∧ Chg lo hi W0 w' := by
  have FB := (Fr.start w).alloc #[.func (.func 93) #[] (capR ob), .func (.func 172) #[] (swB g l.length c)] 188
  obtain ⟨W0, hW0⟩ : ∃ W, W = w.alloc (.cells #[.func (.func 93) #[] (capR ob), .func (.func 172) #[] (swB g l.length c)] 188) := ⟨_, rfl⟩
  rw [← hW0] at FB
  have hst0 : RsSt W0 lo hi ob g c (srtR (l.take 1) ++ l.drop 1) := by rw [srt_one hl.1]; exact h.below FB.below
  have HST0 := Lib.hid hst0
  have HF := Lib.hid FB
  have HW0 := Lib.hid hW0
  have HHI := Lib.hid hhi
  have d0 := FB.at 0 rfl 0 _ rfl
  have d1 := FB.at 0 rfl 1 _ rfl
  have HD : Hid (W0.cell? ⟨w.heap.size, 0, none⟩ = some (.func (.func 93) #[] (capR ob)) ∧ W0.cell? ⟨w.heap.size, 1, none⟩ = some (.func (.func 172) #[] (swB g l.length c)) ∧ w.heap.size < W0.heap.size) := ⟨d0, d1, FB.le 0 rfl⟩
  obtain ⟨hl1, hl2⟩ := hl
  clear FB hst0 hW0 d0 d1 h hhi
  go_enter Try.func173, Try.ntmps173
  go_wp2_with fail
  rw [← HW0.out]
  clear HW0
  go_loopw [6] (fun vi wr => ∃ (i : Nat), vi = .int .i64 i ∧ 1 ≤ i ∧ i ≤ l.length ∧ Hid (RsSt wr lo hi ob g c (srtR (l.take i) ++ l.drop i)) ∧ Hid (Chg lo hi W0 wr)) (fun vi _ => l.length - (intOf vi).toNat)
  case atStart => exact ⟨1, rfl, Nat.le_refl _, hl1, HST0, Lib.hid (Chg.refl _ _ _)⟩
  case round =>
    clear HST0
    obtain ⟨i, rfl, hi1, hi2, HST, HC⟩ := hrel
    by_cases hlt : i < l.length
    · have hltI : (i : Int) < (l.length : Int) := by omega
      have HX : Hid (srtR (l.take i) ++ l.drop i = midL (srtR (l.take i)) l[i] i (l.drop (i + 1)) ∧ midL (srtR (l.take i)) l[i] (posGo l[i] (srtR (l.take i)) i) (l.drop (i + 1)) = srtR (l.take (i + 1)) ++ l.drop (i + 1) ∧ (srtR (l.take i)).length = i ∧ (l.drop (i + 1)).length = l.length - (i + 1)) := ⟨midL_start hlt, midL_done hlt, srt_len l i (by omega), by simp⟩
      revert HX HST
      generalize hLN : srtR (l.take (i + 1)) ++ l.drop (i + 1) = Lnext
      have HLN := Lib.hid hLN
      clear hLN
      generalize l[i] = x
      generalize l.drop (i + 1) = R
      generalize srtR (l.take i) ++ l.drop i = Lnow
      generalize srtR (l.take i) = S
      intro HST HX
      have hst := HST.out
      rw [HX.out.1] at hst
      have HST1 := Lib.hid hst
      clear hst HST
      go_wp2_with fail
      go_loopw [7] (fun vj wr2 => ∃ (j : Nat), vj = .int .i64 j ∧ j ≤ i ∧ Hid (RsSt wr2 lo hi ob g c (midL S x j R)) ∧ Hid (Chg lo hi W0 wr2) ∧ Hid (posGo x S j = posGo x S i)) (fun vj _ => (intOf vj).toNat)
      case atStart => exact ⟨i, rfl, Nat.le_refl _, HST1, HC, Lib.hid rfl⟩
      case round =>
        clear HST1 HC
        rename_i wr0 wr
        obtain ⟨j, rfl, hj, HST, HC, HP⟩ := hrel
        have hob := HX.out.2.2.1
        have hdr := HX.out.2.2.2
        have hHH := HHI.out
        have hdd := HD.out.2.2
        have hFd : ∀ (wx : World), Chg lo hi W0 wx → wx.cell? ⟨w.heap.size, 0, none⟩ = some (.func (.func 93) #[] (capR ob)) ∧ wx.cell? ⟨w.heap.size, 1, none⟩ = some (.func (.func 172) #[] (swB g l.length c)) := fun wx hcx => by
          have hkb := hcx.block _ HD.out.2.2 (.inr HHI.out)
          exact ⟨(World.cell?_of_block (w := W0) hkb).trans HD.out.1, (World.cell?_of_block (w := W0) hkb).trans HD.out.2.1⟩
        have HFd := Lib.hid hFd
        have d0 := (hFd _ HC.out).1
        have hmid : ∀ j', j' ≤ i → (midL S x j' R).length = l.length := fun j' hj' => by rw [midL_len (by omega), hob, hdr]; omega
        have HM := Lib.hid hmid
        clear hFd hmid hdr hHH hdd
        rcases Nat.eq_zero_or_pos j with rfl | hjp
        · have HE : Hid (RsSt wr lo hi ob g c Lnext) := by
            have h1 := HST.out
            have h2 := HX.out.2.1
            rw [← HP.out] at h2
            rw [← h2]
            exact h1
          clear HST HP hob
          go_wp2_with fail
          go_roundw
          case rel => exact ⟨i + 1, by go_num, by omega, by omega, by rw [HLN.out]; exact HE, HC⟩
          case measure => simp [intOf]; omega
        · obtain ⟨k, hk⟩ : ∃ k, j = k + 1 := ⟨j - 1, by omega⟩
          have hkS : k < S.length := by omega
          have hkI : (k : Int) = (j : Int) - 1 := by omega
          have hjI : (0 : Int) < (j : Int) := by omega
          have hx : (midL S x j R)[j]? = some x := midL_at (by omega)
          have hy : (midL S x j R)[k]? = some S[k] := by rw [hk]; exact midL_pred hkS
          have hl := lessC_c lo hi ob g c j k _ _ _ wr HST.out hx hy
          rw [hkI] at hl
          obtain ⟨y, hyy⟩ : ∃ y, y = S[k] := ⟨_, rfl⟩
          rw [← hyy] at hl hy
          cases hb : betterR x y with
          | true =>
            rw [hb] at hl
            have hp : posGo x S j = posGo x S k := by rw [hk]; exact posGo_yes hkS (by rw [← hyy]; exact hb)
            have HP' : Hid (posGo x S k = posGo x S i) := hp.symm.trans HP.out
            have hsw : ∀ W, RsSt W lo hi ob g c (midL S x j R) → (callFunc 172 #[.int .i64 (j : Int), .int .i64 ((j : Int) - 1), .slice (some ⟨g, 0, none⟩) l.length c, rowH]).run Try.prog W = .ok (.value (.tuple #[])) ((W.setCells g (j * 6) y.cells.toList).setCells g (k * 6) x.cells.toList) := fun W hW => by
              have := swapR hW.pc hx hy
              rw [HM.out j hj, hkI] at this
              exact this
            have hnx : ((midL S x j R).set j y).set k x = midL S x k R := by rw [hk, hyy]; exact midL_swap hkS
            have HSW := Lib.hid hsw
            have HNX := Lib.hid hnx
            have HK : Hid (j = k + 1) := hk
            clear hsw hnx hp hyy hb HP hx hy hk hkI hkS hob
            have HL := Lib.hid hl
            clear hl
            go_wp2_with fail
            refine HL.out.mono ?_
            rintro e w3 ⟨rfl, hb3⟩
            have hst3 := HST.out.below hb3
            have hc3 := HC.out.trans (Chg.ofBelow hb3)
            have hd3 := (HFd.out _ hc3).2
            have hs3 := HSW.out w3 hst3
            have hjl : j < (midL S x j R).length := by rw [HM.out j hj]; omega
            have hkl : k < (midL S x j R).length := by have := HK.out; omega
            obtain ⟨hst4, hc4⟩ := hst3.swap hjl hkl x y
            rw [HNX.out] at hst4
            have H4 : Hid (RsSt _ lo hi ob g c (midL S x k R) ∧ Chg lo hi W0 _) := ⟨hst4, hc3.trans hc4⟩
            have HS3 := Lib.hid hs3
            clear hst3 hst4 hc4 hc3 hjl hkl hs3 HST HSW HNX HC HL d0 hb3
            go_wp2_with fail
            first | rw [HS3.out, Oper.upon_value] | (erw [HS3.out]; rw [Oper.upon_value])
            clear HS3 hd3
            go_wp2_with fail
            go_roundw
            case rel => exact ⟨k, by have := HK.out; go_num, by have := HK.out; omega, Lib.hid H4.out.1, Lib.hid H4.out.2, HP'⟩
            case measure => have := HK.out; simp [intOf]; omega
          | false =>
            rw [hb] at hl
            have hp : posGo x S j = j := by rw [hk]; exact posGo_no hkS (by rw [← hyy]; exact hb)
            have HE : Hid (∀ W, Below wr.heap.size wr W → Hid (RsSt W lo hi ob g c Lnext) ∧ Hid (Chg lo hi W0 W)) := fun W hW => by
              have h2 := HX.out.2.1
              rw [← HP.out, hp] at h2
              rw [← h2]
              exact ⟨HST.out.below hW, HC.out.trans (Chg.ofBelow hW)⟩
            clear hp hyy hb HP hx hy HST HC hk hkI hkS hob
            have HL := Lib.hid hl
            clear hl
            go_wp2_with fail
            refine HL.out.mono ?_
            rintro e w3 ⟨rfl, hb3⟩
            have HB3 := Lib.hid hb3
            clear hb3
            go_wp2_with fail
            go_roundw
            case rel => exact ⟨i + 1, by go_num, by omega, by omega, by rw [HLN.out]; exact (HE.out _ HB3.out).1, (HE.out _ HB3.out).2⟩
            case measure => simp [intOf]; omega
    · have hn : i = l.length := by omega
      subst hn
      have hst := HST.out
      rw [List.drop_length, List.take_length, List.append_nil] at hst
      have HE := Lib.hid hst
      clear hst HST
      go_wp2
      go_end0
      exact ⟨rfl, HE.out, W0, HF.out.below, HC.out⟩

end Go.Proofs.Ytbjgigdkbjabaaa
