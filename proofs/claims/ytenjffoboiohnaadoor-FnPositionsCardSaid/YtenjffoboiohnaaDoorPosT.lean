/- PosT: the program's functions on positions: TurnPosition, SeedsOn, SideSeeds, joined (printed by gen/post.py). Each contract holds for every argument, under the premises that it states. -/
import Derived.Test.YtenjffoboiohnaaDoorSlimT
namespace Go.Proofs.YtenjffoboiohnaaDoor
set_option linter.unusedSimpArgs false
set_option linter.unusedVariables false
set_option linter.unnecessarySimpa false
open Go.RowKit Go.ChangeShapes Go.WideShapes Go.ChangeAt Go.Joins

def tofP (r : R) (p : P) : P × Int := if p.ok r = true then (turnP r p, 0) else (⟨[], [], 0⟩, 1)
theorem turnedP_c (r : R) (p : P) (hok : p.ok r = true) (pa sa : Option Addr) (pc sc : Nat) (w : World) (h : PRow w p pa sa) (hc : p.pits.length ≤ pc) (hcm : pc ≤ maxLen) :
    Calls Tryd.prog 18 #[r.val, p.val pa pc sa sc] w (PosRes w (turnP r p)) := by
  obtain ⟨xs, ys, s0, s1, e1, e2, e3, e4, e5, e6⟩ := turn_parts hok
  have hpl := P.ok_player hok
  rw [e6]
  obtain ⟨zs, ss, pl⟩ := p
  simp only [P.mk.injEq] at e1
  obtain ⟨rfl, rfl, _⟩ := e1
  exact turned_c r (xs ++ ys) xs ys s0 s1 pl rfl e2 e3 e4 e5 (by dsimp only at hpl; omega) pa sa pc sc w h.pits h.stores hc hcm

set_option maxRecDepth 100000 in
set_option maxHeartbeats 8000000 in
theorem iTurnPosition_c (r : R) (p : P) (pa sa : Option Addr) (pc sc : Nat) (w : World) (h : PRow w p pa sa) (m1 : p.pits.length ≤ 16777216) (m2 : p.stores.length ≤ 16777216) (hc : p.pits.length ≤ pc) (hcm : pc ≤ maxLen) :
    Calls Tryd.prog 6 #[r.val, p.val pa pc sa sc] w (PvRes w (tofP r p)) := by
  have F0 := (((Fr.start w).alloc r.cells 25).alloc (p.cells pa pc sa sc) 28).allocF #[.slice none 0 0, .slice none 0 0, .int .i64 0] 28
  simp only [World.size_alloc] at F0
  have HP := Lib.hid (h.below F0.below (Nat.le_refl _))
  have HV := Lib.hid (ValidPosition_c r p pa sa pc sc _ HP.out m1 m2)
  have HPV0 : Hid (PRow w p pa sa) := h
  unfold tofP
  cases hok : p.ok r
  · rw [if_neg (by simp)]
    rw [hok] at HV
    clear hok h
    go_enter Tryd.func6, Tryd.ntmps6
    go_wp2_with fail
    refine HV.out.mono ?_
    rintro e wv ⟨rfl, hbv⟩
    have HPV := Lib.hid (HP.out.below hbv (Nat.le_refl _))
    have F0 := F0.step hbv
    obtain ⟨c0, c1, c2, c3, c4, c5, c6, c7, c8⟩ := R.boxc (F0.at 2 rfl)
    obtain ⟨d0, d1, d2⟩ := P.boxc (F0.at 1 rfl)
    clear hbv
    obtain ⟨bx, bf⟩ := F0.at 0 rfl
    obtain ⟨x0, x1, x2⟩ := (⟨bx 0 _ rfl, bx 1 _ rfl, bx 2 _ rfl⟩ : _ ∧ _ ∧ _)
    have zC : w.heap.size + 1 + 1 < wv.heap.size := F0.le 0 rfl
    have B1 := F0.below
    clear bx F0
    go_wp2
    refine bodyPost_ret (v := .tuple #[P.val ⟨[], [], 0⟩ none 0 none 0, .int .i64 1]) (by simp [results, Tryd.results6, go_sem, x0, x1, x2, bf, zC, P.val, P.cells]) rfl ?_
    refine ⟨⟨none, 0, none, 0⟩, rfl, ⟨World.ownsRow_nil _ _ _ _, World.ownsRow_nil _ _ _ _, .inl rfl⟩, ?_⟩
    repeat (first | (with_reducible exact B1) | ((with_reducible refine Below.setCell ?_ ?_ _); rotate_left; (simp <;> omega)) | (with_reducible refine Below.drew ?_))
  · rw [if_pos rfl]
    have HM0 : ∀ W, PRow W p pa sa → Calls Tryd.prog 18 #[r.val, p.val pa pc sa sc] W (PosRes W (turnP r p)) := fun W hW => turnedP_c r p hok pa sa pc sc W hW hc hcm
    rw [hok] at HV
    obtain ⟨y, hyy⟩ : ∃ y, y = turnP r p := ⟨_, rfl⟩
    rw [← hyy] at HM0 ⊢
    have HM1 := Lib.hid HM0
    clear hyy HM0 hok h
    go_enter Tryd.func6, Tryd.ntmps6
    go_wp2_with fail
    refine HV.out.mono ?_
    rintro e wv ⟨rfl, hbv⟩
    have HPV := Lib.hid (HP.out.below hbv (Nat.le_refl _))
    have F0 := F0.step hbv
    obtain ⟨c0, c1, c2, c3, c4, c5, c6, c7, c8⟩ := R.boxc (F0.at 2 rfl)
    obtain ⟨d0, d1, d2⟩ := P.boxc (F0.at 1 rfl)
    clear hbv
    have HM := Lib.hid (HM1.out _ HPV.out)
    clear HM1
    go_wp2_with fail
    refine HM.out.mono ?_
    rintro e w1 ⟨ua, uc, va, vc, rfl, ho, hb1⟩
    have hzv : w.heap.size + 1 + 1 < wv.heap.size := F0.le 0 rfl
    have F1 := F0.step hb1
    obtain ⟨bx, bf⟩ := F1.at 0 rfl
    obtain ⟨x0, x1, x2⟩ := (⟨bx 0 _ rfl, bx 1 _ rfl, bx 2 _ rfl⟩ : _ ∧ _ ∧ _)
    have zC : w.heap.size + 1 + 1 < w1.heap.size := F1.le 0 rfl
    have B1 := F1.below
    (try simp only [World.size_alloc] at ho)
    have HO := Lib.hid ho
    have hzb : w.heap.size + 1 + 1 + 1 ≤ w1.heap.size := by omega
    have hzw : w.heap.size ≤ w.heap.size + 1 + 1 := by omega
    clear bx F0 F1 HM hb1 ho
    go_wp2
    refine bodyPost_ret (v := .tuple #[y.val ua uc va vc, .int .i64 0]) (by simp [results, Tryd.results6, go_sem, x0, x1, x2, bf, zC, P.val, P.cells]) rfl ?_
    refine ⟨⟨ua, uc, va, vc⟩, rfl, ⟨?_, ?_, HO.out.apart⟩, ?_⟩
    · have k0 := HO.out.pits
      dsimp only at k0 ⊢
      refine ownsRow_le (base := wv.heap.size) ?_ (by omega)
      repeat (first | (with_reducible exact k0) | ((with_reducible refine ownsRow_setCell_below ?_ ?_ _); rotate_left; (simp <;> omega)) | (with_reducible refine World.ownsRow.drew ?_))
    · have k0 := HO.out.stores
      dsimp only at k0 ⊢
      refine ownsRow_le (base := wv.heap.size) ?_ (by omega)
      repeat (first | (with_reducible exact k0) | ((with_reducible refine ownsRow_setCell_below ?_ ?_ _); rotate_left; (simp <;> omega)) | (with_reducible refine World.ownsRow.drew ?_))
    · repeat (first | (with_reducible exact B1) | ((with_reducible refine Below.setCell ?_ ?_ _); rotate_left; (simp <;> omega)) | (with_reducible refine Below.drew ?_))


set_option maxHeartbeats 4000000 in
theorem SeedsOn_c (r : R) (p : P) (hok : p.ok r = true) (pa sa : Option Addr) (pc sc : Nat) (w : World) (h : PRow w p pa sa) (m1 : p.pits.length ≤ 16777216) (m2 : p.stores.length ≤ 16777216) :
    Calls Tryd.prog 9 #[r.val, p.val pa pc sa sc] w fun e w' => e = .returned (.tuple #[.int .i64 (sumO p.pits), .int .i64 0]) ∧ Below w.heap.size w w' := by
  have F0 := ((Fr.start w).alloc r.cells 25).alloc (p.cells pa pc sa sc) 28
  simp only [World.size_alloc] at F0
  have HP := Lib.hid (h.below F0.below (Nat.le_refl _))
  have HV := Lib.hid (ValidPosition_c r p pa sa pc sc _ HP.out m1 m2)
  rw [hok] at HV
  have HS := Lib.hid (fun W (hW : Ints W pa p.pits) => sumOf_c pa pc p.pits W hW m1)
  clear hok h
  go_enter Tryd.func9, Tryd.ntmps9
  go_wp2_with fail
  refine HV.out.mono ?_
  rintro e wv ⟨rfl, hbv⟩
  have HPV := Lib.hid (HP.out.below hbv (Nat.le_refl _))
  have F1 := F0.step hbv
  obtain ⟨d0, d1, d2⟩ := P.boxc (F1.at 0 rfl)
  have HBB := Lib.hid F1.below
  clear hbv F0 F1
  go_wp2_with fail
  refine (HS.out _ HPV.out.pits).mono ?_
  rintro e w1 ⟨rfl, rfl⟩
  go_wp2
  go_ret2
  exact ⟨rfl, HBB.out⟩

theorem isPlayer_c (n : Int) (w : World) :
    Calls Tryd.prog 22 #[.int .i64 n] w fun e w' => e = .returned (.bool (inB n 0 1)) ∧ w = w' := by
  go_enter Tryd.func22, Tryd.ntmps22
  go_wp2
  all_goals go_ret
  all_goals refine ⟨ret_bool ?_, rfl⟩
  all_goals (rw [Bool.eq_iff_iff]; simp [inB, *]; try omega)

set_option maxHeartbeats 4000000 in
theorem iSideSeeds_c (r : R) (p : P) (hok : p.ok r = true) (pl : Nat) (hpl : pl ≤ 1) (pa sa : Option Addr) (pc sc : Nat) (w : World) (h : PRow w p pa sa) (m1 : p.pits.length ≤ 16777216) (m2 : p.stores.length ≤ 16777216) (hc : p.pits.length ≤ pc) (hcm : pc ≤ maxLen) :
    Calls Tryd.prog 10 #[r.val, p.val pa pc sa sc, .int .i64 (pl : Int)] w fun e w' => e = .returned (.tuple #[.int .i64 (sideP r p.pits pl), .int .i64 0]) ∧ Below w.heap.size w w' := by
  have F0 := ((Fr.start w).alloc r.cells 25).alloc (p.cells pa pc sa sc) 28
  simp only [World.size_alloc] at F0
  have HP := Lib.hid (h.below F0.below (Nat.le_refl _))
  have HV := Lib.hid (ValidPosition_c r p pa sa pc sc _ HP.out m1 m2)
  obtain ⟨hb, _, t, hB, _, ht⟩ := P.ok_parts hok
  have hap : allIn p.pits = true := List.all_eq_true.2 (fun n hn => inB_iff.2 (hB.bp ht n hn))
  rw [hok] at HV
  have HS := Lib.hid (fun W (hW : Ints W pa p.pits) => side_c r hb pl hpl p.pits hB.lp hap pa pc W hW hc hcm)
  have HIP := Lib.hid (fun W => isPlayer_c (pl : Int) W)
  rw [show inB (pl : Int) 0 1 = true from inB_iff.2 (by omega)] at HIP
  clear hok h
  go_enter Tryd.func10, Tryd.ntmps10
  go_wp2_with fail
  refine HV.out.mono ?_
  rintro e wv ⟨rfl, hbv⟩
  have HPV := Lib.hid (HP.out.below hbv (Nat.le_refl _))
  have F1 := F0.step hbv
  obtain ⟨c0, c1, c2, c3, c4, c5, c6, c7, c8⟩ := R.boxc (F1.at 1 rfl)
  obtain ⟨d0, d1, d2⟩ := P.boxc (F1.at 0 rfl)
  have HBB := Lib.hid F1.below
  clear hbv F0 F1
  go_wp2_with fail
  refine (HIP.out _).mono ?_
  rintro e w1 ⟨rfl, rfl⟩
  go_wp2_with fail
  refine (HS.out _ HPV.out.pits).mono ?_
  rintro e w2 ⟨rfl, hb2⟩
  have HB2 := Lib.hid (below_next HBB.out hb2)
  clear hb2 HS
  go_wp2
  go_ret2
  exact ⟨rfl, HB2.out⟩

theorem jc_step {xs : List Int} {k : Nat} (hk : k < xs.length) : jc (xs.take (k + 1)) = if k = 0 then Lib.itoa xs[k] else jc (xs.take k) ++ 44 :: Lib.itoa xs[k] := by
  rw [List.take_succ_eq_append_getElem hk, jc_snoc]
  have : xs.take k = [] ↔ k = 0 := by
    constructor
    · intro e
      have := congrArg List.length e
      simp at this
      rcases this with h | h
      · exact h
      · subst h; simp at hk
    · rintro rfl; rfl
  by_cases h0 : k = 0
  · rw [if_pos (this.2 h0), if_pos h0]
  · rw [if_neg (fun e => h0 (this.1 e)), if_neg h0]
set_option maxRecDepth 100000 in
set_option maxHeartbeats 8000000 in
theorem joined_c (xs : List Int) (a : Option Addr) (c : Nat) (w : World) (h : Ints w a xs) (hx : ∀ x ∈ xs, Num96 x) (hl : xs.length ≤ 100) :
    Calls Tryd.prog 29 #[.slice a xs.length c] w fun e w' => e = .returned (.string ⟨(jc xs).toArray⟩) ∧ w' = w := by
  have HH := Lib.hid h
  have HX := Lib.hid hx
  clear h hx
  go_enter Tryd.func29, Tryd.ntmps29
  go_wp2_with fail
  go_loopw [3, 8] (fun o i wr => ∃ k : Nat, i = .int .i64 (k : Int) ∧ o = .string ⟨(jc (xs.take k)).toArray⟩ ∧ k ≤ xs.length ∧ Hid (wr = w)) (fun _ i _ => xs.length - (intOf i).toNat)
  case atStart => exact ⟨0, rfl, rfl, Nat.zero_le _, Lib.hid rfl⟩
  case round =>
    obtain ⟨k, rfl, rfl, hk, HW⟩ := hrel
    have hw := HW.out
    subst hw
    have hsz : ∀ x : List UInt8, (ByteArray.mk x.toArray).size = x.length := str_size
    have hap := ba_app
    by_cases hlt : k < xs.length
    · have hkI : (k : Int) < (xs.length : Int) := by omega
      obtain ⟨b, o, rfl, hb, hc⟩ := Ints.at HH.out hlt
      have hst := jc_step hlt
      have hn := HX.out xs[k] (List.getElem_mem hlt)
      have hno := num_ok hn
      have hpl := (jc_no (l := xs.take k) (fun x hx => HX.out x (List.mem_of_mem_take hx))).2.2
      have htl : (xs.take k).length ≤ 100 := by rw [List.length_take]; omega
      obtain ⟨J, hJ⟩ : ∃ J, J = jc (xs.take k) := ⟨_, rfl⟩
      rw [← hJ] at hst hpl
      rw [← hJ]
      obtain ⟨x, hx⟩ : ∃ x, x = xs[k] := ⟨_, rfl⟩
      rw [← hx] at hst hn hno hc
      obtain ⟨n, rfl⟩ : ∃ n : Nat, x = (n : Int) := ⟨x.toNat, by have := hn.1; omega⟩
      have HD := Lib.hid (fun W => DecimalS_c n W (by have := hn.2; omega))
      obtain ⟨D, hD⟩ : ∃ D, D = Lib.itoa (n : Int) := ⟨_, rfl⟩
      rw [← hD] at hst HD hno
      have hDl : D.length ≤ 2 := hno.2.2.2.1
      have hJl : J.length ≤ 300 := by omega
      have hwk : IntKind.i64.wrap ((k : Int) + 1) = (k : Int) + 1 := IntWalk.i64_in _ (by omega)
      have HST := Lib.hid hst
      have hJ0 : Hid (k = 0 → J = []) := fun e => by rw [hJ, e]; rfl
      clear hst hno hn hx hD hJ hpl htl
      by_cases h0 : 0 < k
      · have h0I : (0 : Int) < (k : Int) := by omega
        have HE : Hid (jc (xs.take (k + 1)) = J ++ 44 :: D) := by unfold Hid; rw [HST.out, if_neg (by omega)]
        clear HST
        go_wp2_with fail
        refine (HD.out _).mono ?_
        rintro e w2 ⟨rfl, rfl⟩
        go_wp2
        go_roundw
        case rel => exact ⟨k + 1, by go_num, by rw [HE.out], by omega, by first | exact Lib.hid rfl | trivial⟩
        case measure => simp [intOf]; omega
      · have h0' : k = 0 := by omega
        have h0I : ¬ (0 : Int) < (k : Int) := by omega
        have HE : Hid (jc (xs.take (k + 1)) = J ++ D) := by
          unfold Hid
          rw [HST.out, if_pos h0']
          rw [hJ0.out h0']; rfl
        clear HST h0'
        go_wp2_with fail
        refine (HD.out _).mono ?_
        rintro e w2 ⟨rfl, rfl⟩
        go_wp2
        go_roundw
        case rel => exact ⟨k + 1, by go_num, by rw [HE.out], by omega, by first | exact Lib.hid rfl | trivial⟩
        case measure => simp [intOf]; omega
    · have hkl : k = xs.length := by omega
      subst hkl
      rw [List.take_length]
      have hkI : ¬ (xs.length : Int) < (xs.length : Int) := by omega
      go_wp2
      go_ret
      exact ⟨rfl, rfl⟩

end Go.Proofs.YtenjffoboiohnaaDoor
