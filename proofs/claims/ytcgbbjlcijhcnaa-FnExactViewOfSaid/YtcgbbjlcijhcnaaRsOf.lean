/- RsOf: the result of a move, out of the list of all: the program's functions. Each contract holds for every argument, under the premises that it states. -/
import Derived.Test.YtcgbbjlcijhcnaaCan
namespace Go.Proofs.Ytcgbbjlcijhcnaa
set_option linter.unusedSimpArgs false
set_option linter.unusedVariables false
set_option linter.unnecessarySimpa false
open Go.RowKit Go.ChangeShapes Go.WideShapes Go.ChangeAt Go.Joins

theorem allP_of {r : R} {p : P} {x : Mk} (h : x ∈ allP r p) : ∃ m : Nat, x = makeP r p m ∧ (makeP r p m).code = 0 ∧ x.move = m := by
  obtain ⟨m, _, hm⟩ := List.mem_filterMap.1 h
  unfold mkO at hm
  split at hm
  · rename_i hc
    have hx : makeP r p m = x := by simpa using hm
    refine ⟨m, hx.symm, hc, ?_⟩
    rw [← hx, makeP_ok (by rw [← makeP_code]; exact hc)]
  · cases hm
theorem allP_in {r : R} {p : P} {move : Int} (h : (doneP r p move).code = 0) : makeP r p move ∈ allP r p := by
  obtain ⟨hc0, L, n, ho⟩ := doneP_zero h
  obtain ⟨hok, ⟨h0, h1⟩, _⟩ := codeP_zero hc0
  obtain ⟨m, rfl⟩ : ∃ m : Nat, move = m := ⟨move.toNat, by omega⟩
  refine List.mem_filterMap.2 ⟨m, by simp; omega, ?_⟩
  unfold mkO
  rw [if_pos (by rw [makeP_code]; exact h)]
theorem makeP_bad {r : R} {p : P} {move c : Int} (h : (doneP r p move).code = c) (hc : ¬ c = 0) : makeP r p move = .bad c := by
  unfold makeP makeL
  rw [if_neg (by rw [h]; exact hc), h]

/-- a round over the results -/
structure RoSt (w wr : World) (l : List (Mk × MA)) (ad : Option Addr) (c hi : Nat) (move : Int) (k : Nat) : Prop where
  kl : k ≤ l.length
  no : ∀ j x, j < k → l[j]? = some x → ¬ x.1.move = move
  fr : Fr w wr [⟨w.heap.size + 1 + 1 + 1, hi, MksP (w.heap.size + 1 + 1 + 1) hi ad c l⟩, ⟨w.heap.size + 1 + 1, w.heap.size + 1 + 1 + 1, BoxF (w.heap.size + 1 + 1) [.int .i64 0, .int .i64 0, .bool false, .slice none 0 0, .slice none 0 0, .int .i64 0]⟩]
set_option maxRecDepth 100000 in
set_option maxHeartbeats 8000000 in
theorem resultOf_c (r : R) (p : P) (move : Int) (pa sa : Option Addr) (pc sc : Nat) (w : World) (h : PRow w p pa sa) (m1 : p.pits.length ≤ 16777216) (m2 : p.stores.length ≤ 16777216) (hc : p.pits.length ≤ pc) (hcm : pc ≤ maxLen) :
    Calls Try.prog 80 #[r.val, p.val pa pc sa sc, .int .i64 move] w (MkRes w (makeP r p move)) := by
  have F0 := (((Fr.start w).alloc r.cells 31).alloc (p.cells pa pc sa sc) 28).allocF #[.int .i64 0, .int .i64 0, .bool false, .slice none 0 0, .slice none 0 0, .int .i64 0] 71
  simp only [World.size_alloc] at F0
  have HC := Lib.hid (fun W (H : PRow W p pa sa) => iMoveFault_c r p move pa sa pc sc W H m1 m2 hc hcm)
  obtain ⟨y, hy⟩ : ∃ y, y = makeP r p move := ⟨_, rfl⟩
  rw [← hy]
  obtain ⟨k0, hk0⟩ : ∃ c, (doneP r p move).code = c := ⟨_, rfl⟩
  rw [hk0] at HC
  have HY := Lib.hid hy
  have HK0 := Lib.hid hk0
  clear hy hk0
  go_enter Try.func80, Try.ntmps80
  go_wp2_with fail
  refine (HC.out _ (h.below F0.below (Nat.le_refl _))).mono ?_
  rintro e w1 ⟨rfl, hb1⟩
  have F1 := F0.step hb1
  clear hb1 F0 HC
  by_cases hz : k0 = 0
  case neg =>
    have hz' : (k0 != 0) = true := by simpa using hz
    have HE := Lib.hid (HY.out.trans (makeP_bad HK0.out hz))
    obtain ⟨bx, bf⟩ := F1.at 0 rfl
    obtain ⟨x0, x1, x2, x3, x4, x5⟩ := (⟨bx 0 _ rfl, bx 1 _ rfl, bx 2 _ rfl, bx 3 _ rfl, bx 4 _ rfl, bx 5 _ rfl⟩ : _ ∧ _ ∧ _ ∧ _ ∧ _ ∧ _)
    have zC : w.heap.size + 1 + 1 < w1.heap.size := F1.le 0 rfl
    have B1 := F1.below
    clear hz bx F1
    go_wp2_with fail
    refine bodyPost_ret (v := .tuple #[(Mk.bad k0).val none 0 none 0, .int .i64 k0]) (by simp [results, Try.results80, go_sem, x0, x1, x2, x3, x4, x5, bf, zC, Mk.bad]) rfl ?_
    rw [HE.out]
    refine ⟨none, 0, none, 0, rfl, ⟨World.ownsRow_nil _ _ _ _, World.ownsRow_nil _ _ _ _, .inl rfl⟩, ?_⟩
    repeat (first | (with_reducible exact B1) | ((with_reducible refine Below.setCell ?_ ?_ _); rotate_left; (simp <;> omega)))
  have hz' : (k0 != 0) = false := by simpa using hz
  have hd0 : (doneP r p move).code = 0 := by rw [HK0.out]; exact hz
  have hok : p.ok r = true := (codeP_zero (doneP_zero hd0).1).1
  have HIN := Lib.hid (allP_in hd0)
  have HR := Lib.hid (results_c r p hok pa sa pc sc _ (h.below F1.below (Nat.le_refl _)) m1 m2 hc hcm)
  obtain ⟨c0, c1, c2, c3, c4, c5, c6, c7, c8⟩ := R.boxc (F1.at 2 rfl)
  obtain ⟨d0, d1, d2⟩ := P.boxc (F1.at 1 rfl)
  have zA : w.heap.size < w1.heap.size := F1.le 2 rfl
  have zB : w.heap.size + 1 < w1.heap.size := F1.le 1 rfl
  have HD0 := Lib.hid hd0
  clear hz hd0 hok h
  go_wp2_with fail
  refine HR.out.mono ?_
  rintro e w2 ⟨l, ad, c, hl, rfl, ho, hb2⟩
  have F2 := F1.step hb2
  have HL := Lib.hid hl
  have hz1 : w.heap.size + 1 + 1 + 1 ≤ w1.heap.size := F1.le 0 rfl
  have FB : Fr w w2 [⟨w.heap.size + 1 + 1 + 1, w2.heap.size, MksP (w.heap.size + 1 + 1 + 1) w2.heap.size ad c l⟩, ⟨w.heap.size + 1 + 1, w.heap.size + 1 + 1 + 1, BoxF (w.heap.size + 1 + 1) [.int .i64 0, .int .i64 0, .bool false, .slice none 0 0, .slice none 0 0, .int .i64 0]⟩] :=
    Fr.mks (ls := [⟨w.heap.size + 1 + 1, w.heap.size + 1 + 1 + 1, BoxF (w.heap.size + 1 + 1) [.int .i64 0, .int .i64 0, .bool false, .slice none 0 0, .slice none 0 0, .int .i64 0]⟩]) ⟨F2.below, fun x hx => F2.res x (by simp at hx; subst hx; simp)⟩ (ho.le hz1)
  have hST : Hid (RoSt w w2 l ad c w2.heap.size move 0) := ⟨Nat.zero_le _, fun j x hj => by omega, FB⟩
  have hlc : l.length ≤ maxLen := by
    rcases ho.row.2 with ⟨_, h2⟩ | ⟨g, cap, cur, hv, hb, hg, hn, hm, _⟩
    · omega
    · cases hv; omega
  clear hb2 hl ho F1 F2 FB c0 c1 c2 c3 c4 c5 c6 c7 c8 d0 d1 d2 HR zA zB hz1
  go_wp2_with fail
  go_loopw [23] (fun i wr => ∃ k : Nat, i = .int .i64 k ∧ RoSt w wr l ad c w2.heap.size move k) (fun i _ => l.length - (intOf i).toNat)
  case atStart => exact ⟨0, rfl, hST.out⟩
  case round =>
    clear hST
    obtain ⟨k, rfl, hst⟩ := hrel
    have F := hst.fr
    have HNO := Lib.hid hst.no
    have hkl := hst.kl
    clear hst
    by_cases hk : k < l.length
    case neg =>
      exfalso
      obtain ⟨x, hx, hxe⟩ := List.mem_map.1 (show makeP r p move ∈ l.map Prod.fst from by rw [HL.out]; exact HIN.out)
      obtain ⟨j, hj⟩ := List.getElem?_of_mem hx
      have hjl : j < l.length := by
        rcases Nat.lt_or_ge j l.length with h | h
        · exact h
        · rw [List.getElem?_eq_none h] at hj; cases hj
      refine HNO.out j x (by omega) hj ?_
      rw [hxe, makeP_ok HD0.out]
    obtain ⟨x, hx⟩ : ∃ x, l[k]? = some x := ⟨l[k], by simp [hk]⟩
    have HX := Lib.hid hx
    have HMP := Lib.hid (F.at 0 rfl)
    obtain ⟨g, rfl, hg1, hg2⟩ := own_lt_n (F.at 0 rfl).1.row (by omega : 0 < l.length)
    have hcell : ∀ j v, j < 6 → (x.1.cells x.2.pa x.2.pc x.2.sa x.2.sc).toList[j]? = some v → wr.cell? ⟨g, k * 6 + j, none⟩ = some v := fun j v hj hv => by
      rw [HMP.out.1.row.cellAt (k * 6 + j) (by show k * 6 + j < l.length * 6; omega), mcells_get l k j x hx hj]
      exact hv
    obtain ⟨q0, q1, q2, q3, q4, q5⟩ := (⟨hcell 0 _ (by omega) rfl, hcell 1 _ (by omega) rfl, hcell 2 _ (by omega) rfl, hcell 3 _ (by omega) rfl, hcell 4 _ (by omega) rfl, hcell 5 _ (by omega) rfl⟩ : _ ∧ _ ∧ _ ∧ _ ∧ _ ∧ _)
    rw [Nat.add_zero] at q0
    have hki : (k : Int) < (l.length : Int) := by omega
    have hkm : k ≤ maxLen := by omega
    have zW : w.heap.size + 1 + 1 < wr.heap.size := F.le 1 rfl
    obtain ⟨bx, bf⟩ := F.at 1 rfl
    obtain ⟨x0, x1, x2, x3, x4, x5⟩ := (⟨bx 0 _ rfl, bx 1 _ rfl, bx 2 _ rfl, bx 3 _ rfl, bx 4 _ rfl, bx 5 _ rfl⟩ : _ ∧ _ ∧ _ ∧ _ ∧ _ ∧ _)
    clear hx hcell bx
    by_cases hm : x.1.move = move
    · have hm' : (x.1.move == move) = true := by simpa using hm
      have HM := Lib.hid hm
      clear hm
      have hPO := (HMP.out.1.items x (List.mem_of_getElem? HX.out)).1
      have hxy : x.1 = y := by
        have h1 : x.1 ∈ allP r p := by rw [← HL.out]; exact List.mem_map_of_mem (List.mem_of_getElem? HX.out)
        obtain ⟨m', h2, h3, h4⟩ := allP_of h1
        rw [h2, HY.out, show (m' : Int) = move from by rw [← h4]; exact HM.out]
      have hcy : y.code = 0 := by rw [HY.out, makeP_code]; exact HD0.out
      have HXY := Lib.hid (⟨hPO, hxy, hcy⟩ : _ ∧ _ ∧ _)
      have BW := F.below
      have hzw := BW.size
      clear hPO hxy hcy F
      go_wp2_with fail
      refine bodyPost_ret (v := .tuple #[x.1.val x.2.pa x.2.pc x.2.sa x.2.sc, .int .i64 0]) (by simp [results, Try.results80, go_sem, x0, x1, x2, x3, x4, x5, bf, zW]) rfl ?_
      obtain ⟨hPO, hxy, hcy⟩ := HXY.out
      subst hxy
      refine ⟨x.2.pa, x.2.pc, x.2.sa, x.2.sc, by rw [hcy], ⟨?_, ?_, hPO.apart⟩, ?_⟩
      · have k0 := hPO.pits
        dsimp only at k0 ⊢
        refine ownsRow_le (base := w.heap.size + 1 + 1 + 1) ?_ (by omega)
        repeat (first | (with_reducible exact k0) | (with_reducible refine World.ownsRow.alloc ?_ _) | ((with_reducible refine ownsRow_setCell_below ?_ ?_ _); rotate_left; (simp <;> omega)))
      · have k0 := hPO.stores
        dsimp only at k0 ⊢
        refine ownsRow_le (base := w.heap.size + 1 + 1 + 1) ?_ (by omega)
        repeat (first | (with_reducible exact k0) | (with_reducible refine World.ownsRow.alloc ?_ _) | ((with_reducible refine ownsRow_setCell_below ?_ ?_ _); rotate_left; (simp <;> omega)))
      · repeat (first | (with_reducible exact BW) | ((with_reducible refine Below.setCell ?_ ?_ _); rotate_left; (simp <;> omega)) | ((with_reducible refine Below.alloc ?_ ?_ _); rotate_left; (first | omega | (simp <;> omega))))
    · have hm' : (x.1.move == move) = false := by simpa using hm
      have HM := Lib.hid hm
      have hnum : wrap64 ((k : Int) + 1) = ((k + 1 : Nat) : Int) := by
        have hkm2 := hlc
        unfold maxLen at hkm2
        have h1 : wrap64 ((k : Int) + 1) = (k : Int) + 1 := by unfold wrap64; omega
        rw [h1]; simp
      have HNUM := Lib.hid hnum
      clear hm hnum
      go_wp2
      go_roundw
      case rel =>
        refine ⟨k + 1, by rw [HNUM.out], by omega, fun j x' hj hx' => ?_, F.step (below_alloc1 _ _)⟩
        rcases Nat.lt_or_ge j k with h1 | h1
        · exact HNO.out j x' h1 hx'
        · obtain rfl : j = k := by omega
          have h2 := HX.out
          rw [hx'] at h2
          cases h2
          exact HM.out
      case measure => (rw [HNUM.out]; simp [intOf]; omega)

end Go.Proofs.Ytcgbbjlcijhcnaa
