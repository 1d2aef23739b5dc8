/- Tab12: the table, sorted: the reference's function. Each contract holds for every argument, under the premises that it states. -/
import Derived.Test.YtbjgigdkbjabaaaTab11
namespace Go.Proofs.Ytbjgigdkbjabaaa
set_option linter.unusedSimpArgs false
set_option linter.unusedVariables false
set_option linter.unnecessarySimpa false
open Go.RowKit Go.ChangeShapes Go.WideShapes Go.ChangeAt Go.Joins

theorem rslice_hi (g k p c : Nat) (hp : p ≤ c) (W : World) : (Instr.slice 65 (.slice (some ⟨g, 0, none⟩) k c) none (some (.int .i64 (p : Int))) none).run Try.prog W = .ok (.slice (some ⟨g, 0, none⟩) p c) W := by
  have h := run_slice_h (P := Try.prog) W 65 (some ⟨g, 0, none⟩) k c (by kernel_rfl) .i64 (p : Int) (by omega) (by omega)
  have hz : (sizeOf (Try.prog.elem 65)).run Try.prog W = .ok 6 W := by kernel_rfl
  rw [h, hz]
  simp [Result.andThen, sliced, Addr.add]
theorem rslice_lo (g k p c : Nat) (hp : p ≤ k) (hc : k ≤ c) : ∃ q : Nat, (∀ W, (Instr.slice 65 (.slice (some ⟨g, 0, none⟩) k c) (some (.int .i64 (p : Int))) none none).run Try.prog W = .ok (.slice (some ⟨g, q, none⟩) (k - p) (c - p)) W) ∧ (p < k → q = p * 6) := by
  refine ⟨if c = p then 0 else p * 6, fun W => ?_, fun h => by rw [if_neg (by omega)]⟩
  have h := run_slice_l (P := Try.prog) W 65 (some ⟨g, 0, none⟩) k c (by kernel_rfl) .i64 (p : Int) (by omega) (by omega)
  have hz : (sizeOf (Try.prog.elem 65)).run Try.prog W = .ok 6 W := by kernel_rfl
  rw [h, hz]
  by_cases h1 : c = p
  · simp [Result.andThen, sliced, h1]
  · by_cases h2 : p = 0
    · subst h2
      simp [Result.andThen, sliced, h1, Addr.add]
    · simp [Result.andThen, sliced, h1, Addr.add, h2]
      omega
theorem cells_front {w : World} {base g c : Nat} {S : List Rw} (h : w.ownsRow base 84 6 (.slice (some ⟨g, 0, none⟩) S.length c) S.length (flat rwRL.f S)) (p : Nat) : ∀ j u, (flat rwRL.f (S.take p))[j]? = some u → w.cell? ((⟨g, 0, none⟩ : Addr).add j) = some u := by
  intro j u hu
  refine h.cells (g := g) rfl j u ?_
  rw [← List.take_append_drop p S, flat_append]
  obtain ⟨hj, rfl⟩ := List.getElem?_eq_some_iff.1 hu
  rw [List.getElem?_append_left hj]
  exact List.getElem?_eq_getElem hj
theorem cells_back {w : World} {base g c q : Nat} {S : List Rw} (h : w.ownsRow base 84 6 (.slice (some ⟨g, 0, none⟩) S.length c) S.length (flat rwRL.f S)) (p : Nat) (hq : p < S.length → q = p * 6) : ∀ j u, (flat rwRL.f (S.drop p))[j]? = some u → w.cell? ((⟨g, q, none⟩ : Addr).add j) = some u := by
  intro j u hu
  by_cases hp : p < S.length
  · obtain rfl := hq hp
    have hl : (flat rwRL.f (S.take p)).length = p * 6 := by rw [flat_length rwRL.hf, List.length_take, Nat.min_eq_left (by omega)]; rfl
    have := h.cells (g := g) rfl (p * 6 + j) u (by
      rw [← List.take_append_drop p S, flat_append, List.getElem?_append_right (by omega), hl, Nat.add_sub_cancel_left]
      exact hu)
    rw [addr_addT] at this ⊢
    rwa [Nat.zero_add] at this
  · rw [List.drop_eq_nil_of_le (by omega)] at hu
    cases hu
theorem own_capsT {w : World} {base size n c : Nat} {e : TypeId} {a : Option Addr} {vs : List Value} (h : w.ownsRow base e size (.slice a n c) n vs) : n ≤ c ∧ c ≤ maxLen := by
  obtain ⟨_, ⟨h1, h2⟩ | ⟨g, cap, cur, hv, hb, hg, hn, hm, _⟩⟩ := h
  · cases h1; simp
  · cases hv; exact ⟨hn, hm⟩
theorem rw_oneCell : ∀ (l : List Rw), ∀ u ∈ flat rwRL.f l, u.oneCell' = true
  | [], u, hu => by cases hu
  | x :: l, u, hu => by
    rw [flat] at hu
    rcases List.mem_append.1 hu with hu | hu
    · simp [rwRL, Rw.cells] at hu
      rcases hu with rfl | rfl | rfl | rfl | rfl | rfl <;> rfl
    · exact rw_oneCell l u hu
theorem rowsP_sm {n : Nat} {l : List Mt} (hok : ∀ m ∈ l, m.ok (n : Int) = true) (hl : l.length ≤ 150) : ∀ x ∈ rowsP n l, x.Sm := by
  intro x hx
  unfold rowsP rowsAt at hx
  obtain ⟨i, _, rfl⟩ := List.mem_map.1 hx
  obtain ⟨h1, h2, h3, h4, h5⟩ := row_bd hok hok hok hok hl hl hl hl (i : Int)
  exact ⟨by omega, by omega, by omega, by omega, by omega⟩
set_option maxRecDepth 100000 in
set_option maxHeartbeats 16000000 in
theorem l26Table_c (n : Nat) (l : List Mt) (a : Option Addr) (c : Nat) (w : World) (h : Row w a (flat mtRL.f l)) (hn : 2 ≤ n ∧ n ≤ 12) (hl : l.length ≤ 150) (hok : ∀ m ∈ l, m.ok (n : Int) = true) :
    Calls Try.prog 89 #[.int .i64 (n : Int), .slice a l.length c] w (RwRes w (srtR (rowsP n l))) := by
  obtain ⟨i0, hi, hz0, hz1, hz2⟩ := info_partsRw infoRw
  have HR := Lib.hid (l26Rows_c n l a c w h hn hl hok)
  have HSM := Lib.hid (rowsP_sm hok hl)
  have HLN := Lib.hid (rowsP_len n l)
  have HNN := Lib.hid hn
  clear h hok hl hn
  revert HR HSM HLN
  generalize rowsP n l = L
  intro HR HSM HLN
  go_enter Try.func89, Try.ntmps89
  go_wp2_with fail
  refine HR.out.mono ?_
  rintro e w1 ⟨a1, c1, rfl, hp1, hb1⟩
  clear HR
  obtain ⟨g1, rfl, hg1, hg2⟩ := RL.at hp1.mk' (by have := HLN.out; have := HNN.out; omega)
  have HB0 := Lib.hid (below_next hb1 (below_alloc1 w1 (.cells #[] 84)))
  have HP0 : Hid (PcsP w.heap.size w1.heap.size (rwRL.pcs (some ⟨g1, 0, none⟩) c1 L) (w1.alloc (.cells #[] 84))) := hp1.mk'.below (below_alloc1 _ _)
  have HO0 : Hid ((w1.alloc (.cells #[] 84)).ownsRow w.heap.size 84 6 (.slice (some ⟨w1.heap.size, 0, none⟩) (srtR (L.take 0)).length 0) (srtR (L.take 0)).length (flat rwRL.f (srtR (L.take 0)))) := World.ownsRow_lit (base := w.heap.size) (e := 84) (size := 6) w1 #[] 0 hb1.size (Nat.zero_le _) rfl
  obtain ⟨hiL, hhiL⟩ : ∃ x, x = w1.heap.size := ⟨_, rfl⟩
  rw [← hhiL] at HP0
  clear hp1 hb1 hg1 hg2 hhiL
  go_upto_region 4 with fail
  go_loopw [6, 7] (fun s i wr => ∃ (k gd cd : Nat), i = .int .i64 k ∧ s = .slice (some ⟨gd, 0, none⟩) k cd ∧ k ≤ L.length ∧ Hid (wr.ownsRow w.heap.size 84 6 (.slice (some ⟨gd, 0, none⟩) (srtR (L.take k)).length cd) (srtR (L.take k)).length (flat rwRL.f (srtR (L.take k)))) ∧ Hid (PcsP w.heap.size hiL (rwRL.pcs (some ⟨g1, 0, none⟩) c1 L) wr) ∧ Hid (Below w.heap.size w wr)) (fun _ i _ => L.length - (intOf i).toNat)
  case atStart => exact ⟨0, _, _, rfl, rfl, Nat.zero_le _, HO0, HP0, HB0⟩
  case round =>
    clear HO0 HP0 HB0
    obtain ⟨k, gd, cd, rfl, rfl, hk, HO, HP, HB⟩ := hrel
    by_cases hlt : k < L.length
    · have hkI : (k : Int) < (L.length : Int) := by omega
      obtain ⟨S, hS⟩ : ∃ S, S = srtR (L.take k) := ⟨_, rfl⟩
      have hSl : S.length = k := by rw [hS]; exact srt_len L k hk
      obtain ⟨x, hx⟩ : ∃ x, x = L[k] := ⟨_, rfl⟩
      have hxk : L[k]? = some x := by rw [hx]; exact List.getElem?_eq_getElem hlt
      have HX := Lib.hid hxk
      have HSX : Hid (∀ y ∈ S, y.Sm) := fun y hy => HSM.out y (srt_mem L k hk y (by rw [← hS]; exact hy))
      have HXM : Hid x.Sm := HSM.out x (List.mem_of_getElem? hxk)
      have HNX : Hid (insR x S = srtR (L.take (k + 1))) := by unfold Hid; rw [srt_step hlt, hx, hS]
      have ho := HO.out
      rw [← hS] at ho
      have HOS := Lib.hid ho
      have HSL := Lib.hid hSl
      obtain ⟨hcp1, hcp2⟩ := own_capsT ho
      have hkc : k ≤ cd := by omega
      have hkcI : (k : Int) ≤ (cd : Int) := by omega
      have hx0 := rw_cells HP.out hxk
      have HXC : Hid (∀ W, Below wr.heap.size wr W → (W.cell? ⟨g1, k * 6, none⟩ = some (.int .i64 x.player) ∧ W.cell? ⟨g1, k * 6 + 1, none⟩ = some (.int .i64 x.points) ∧ W.cell? ⟨g1, k * 6 + 2, none⟩ = some (.int .i64 x.wins) ∧ W.cell? ⟨g1, k * 6 + 3, none⟩ = some (.int .i64 x.games) ∧ W.cell? ⟨g1, k * 6 + 4, none⟩ = some (.int .i64 x.against) ∧ W.cell? ⟨g1, k * 6 + 5, none⟩ = some (.int .i64 x.strength))) := fun W hW => rw_cells (HP.out.below hW) hxk
      clear hx0 hxk hx hS ho HO hcp1 hcp2 hSl
      obtain ⟨wo, hwo⟩ : ∃ W, W = wr := ⟨_, rfl⟩
      subst hwo
      go_wp2_with fail
      go_loopw [8] (fun vj wr2 => ∃ (j : Nat), vj = .int .i64 j ∧ j ≤ k ∧ Hid (posGo x S j = posGo x S k) ∧ Hid (Below wo.heap.size wo wr2)) (fun vj _ => (intOf vj).toNat)
      case atStart => exact ⟨k, rfl, Nat.le_refl _, Lib.hid rfl, Lib.hid (Below.refl _ _)⟩
      case round =>
        obtain ⟨j, rfl, hj, HPG, HBW⟩ := hrel
        have HJK : Hid (j ≤ k) := hj
        rcases Nat.eq_zero_or_pos j with hj0 | hjp
        · have HBU : Hid (Below wo.heap.size wo wr.drew) := below_next HBW.out (Below.refl _ _).drew
          have hz : decide (0 < j) = false := by simp; omega
          have hz3 : decide ((0 : Int) < (j : Int)) = false := by simp; omega
          have HPE : Hid (posGo x S k = j) := by unfold Hid; rw [← HPG.out, hj0]; rfl
          clear HBW HPG hj0
          go_wp2_with fail
          refine heldH (S := fun _ => True) (n := 13) (listed := #[false, false, false, false, false, false, false, false, false, false, false, false, false]) (by kernel_rfl) (by rfl) (by rfl) ?_ (fun hHeld => ?_)
          (focus ((try dsimp only); (first | done | ((trivial); done))))
          (refine takeH (i := 0) (v := ?_) (by decide +kernel) (by decide +kernel) (by kernel_rfl) (by rfl) (by exact fun _ _ _ h => h) (by rfl) ?_ (by assumption) ?_); rotate_left; (focus (intro w hSw; (try dsimp only at hSw); go_simp; (try with_reducible rfl); done)); (try simp only [Act.put, List.setIfInBounds_toArray, List.set_cons_zero, List.set_cons_succ])
          (refine takeH (i := 1) (v := ?_) (by decide +kernel) (by decide +kernel) (by kernel_rfl) (by rfl) (by exact fun _ _ _ h => h) (by rfl) ?_ (by assumption) ?_); rotate_left; (focus (intro w hSw; (try dsimp only at hSw); go_simp; (try with_reducible rfl); done)); (try simp only [Act.put, List.setIfInBounds_toArray, List.set_cons_zero, List.set_cons_succ])
          (refine takeH (i := 2) (v := ?_) (by decide +kernel) (by decide +kernel) (by kernel_rfl) (by rfl) (by exact fun _ _ _ h => h) (by rfl) ?_ (by assumption) ?_); rotate_left; (focus (intro w hSw; (try dsimp only at hSw); go_simp; (try with_reducible rfl); done)); (try simp only [Act.put, List.setIfInBounds_toArray, List.set_cons_zero, List.set_cons_succ])
          ((refine skipH (i := 3) (by decide +kernel) (by decide +kernel) (by kernel_rfl) (by rfl) (by exact fun _ _ _ h => h) (by rfl) (by assumption) ?_); (try simp only [Act.put, List.setIfInBounds_toArray, List.set_cons_zero, List.set_cons_succ]))
          ((refine skipH (i := 4) (by decide +kernel) (by decide +kernel) (by kernel_rfl) (by rfl) (by exact fun _ _ _ h => h) (by rfl) (by assumption) ?_); (try simp only [Act.put, List.setIfInBounds_toArray, List.set_cons_zero, List.set_cons_succ]))
          ((refine skipH (i := 5) (by decide +kernel) (by decide +kernel) (by kernel_rfl) (by rfl) (by exact fun _ _ _ h => h) (by rfl) (by assumption) ?_); (try simp only [Act.put, List.setIfInBounds_toArray, List.set_cons_zero, List.set_cons_succ]))
          ((refine skipH (i := 6) (by decide +kernel) (by decide +kernel) (by kernel_rfl) (by rfl) (by exact fun _ _ _ h => h) (by rfl) (by assumption) ?_); (try simp only [Act.put, List.setIfInBounds_toArray, List.set_cons_zero, List.set_cons_succ]))
          ((refine skipH (i := 7) (by decide +kernel) (by decide +kernel) (by kernel_rfl) (by rfl) (by exact fun _ _ _ h => h) (by rfl) (by assumption) ?_); (try simp only [Act.put, List.setIfInBounds_toArray, List.set_cons_zero, List.set_cons_succ]))
          ((refine skipH (i := 8) (by decide +kernel) (by decide +kernel) (by kernel_rfl) (by rfl) (by exact fun _ _ _ h => h) (by rfl) (by assumption) ?_); (try simp only [Act.put, List.setIfInBounds_toArray, List.set_cons_zero, List.set_cons_succ]))
          ((refine skipH (i := 9) (by decide +kernel) (by decide +kernel) (by kernel_rfl) (by rfl) (by exact fun _ _ _ h => h) (by rfl) (by assumption) ?_); (try simp only [Act.put, List.setIfInBounds_toArray, List.set_cons_zero, List.set_cons_succ]))
          ((refine skipH (i := 10) (by decide +kernel) (by decide +kernel) (by kernel_rfl) (by rfl) (by exact fun _ _ _ h => h) (by rfl) (by assumption) ?_); (try simp only [Act.put, List.setIfInBounds_toArray, List.set_cons_zero, List.set_cons_succ]))
          ((refine skipH (i := 11) (by decide +kernel) (by decide +kernel) (by kernel_rfl) (by rfl) (by exact fun _ _ _ h => h) (by rfl) (by assumption) ?_); (try simp only [Act.put, List.setIfInBounds_toArray, List.set_cons_zero, List.set_cons_succ]))
          (refine takeH (i := 12) (v := ?_) (by decide +kernel) (by decide +kernel) (by kernel_rfl) (by rfl) (by exact fun _ _ _ h => h) (by rfl) ?_ (by assumption) ?_); rotate_left; (focus (intro w hSw; (try dsimp only at hSw); go_simp; (try with_reducible rfl); done)); (try simp only [Act.put, List.setIfInBounds_toArray, List.set_cons_zero, List.set_cons_succ])
          refine wpAnyH_done (by decide +kernel) ?_ _
          clear hHeld hz hz3
          generalize wr.drew = U at HBU ⊢
          have HPJ : Hid (posGo x S S.length = j) := by have := HPE.out; have e := HSL.out; rw [e]; exact this
          have HKD : Hid (k ≤ cd) := hkc
          have hsh := rslice_hi gd k j cd (by have := HJK.out; have := HKD.out; omega)
          obtain ⟨q, hsl, hq⟩ := rslice_lo gd k j cd (by have := HJK.out; omega) (by have := HKD.out; omega)
          have HSH := Lib.hid hsh
          have HSLO := Lib.hid hsl
          have HQ := Lib.hid hq
          have HJM : Hid (j ≤ 12 ∧ k < 12) := by have e1 := HJK.out; have e2 := HLN.out; have e3 := HNN.out; exact ⟨by omega, by omega⟩
          have HOA : Hid ((U.alloc (.cells #[] 84)).ownsRow U.heap.size 84 6 (.slice (some ⟨U.heap.size, 0, none⟩) 0 0) 0 []) := World.ownsRow_lit (base := U.heap.size) (e := 84) (size := 6) U #[] 0 (Nat.le_refl _) (Nat.zero_le _) rfl
          have HOB : Hid ((U.alloc (.cells #[] 84)).ownsRow w.heap.size 84 6 (.slice (some ⟨gd, 0, none⟩) S.length cd) S.length (flat rwRL.f S)) := own_below HOS.out (below_next HBU.out (below_alloc1 _ _)) (Nat.le_refl _)
          have hls : (flat rwRL.f (S.take j)).length = j * 6 := by rw [flat_length rwRL.hf, List.length_take, Nat.min_eq_left (by have := HJK.out; have := HSL.out; omega)]; rfl
          have HLS := Lib.hid hls
          clear hsl hq hls hkc HPE hj
          go_wp2_with (at_builtin; refine wpList_append_own2 _ rfl _ _ 65 rfl U.heap.size 84 i0 (.agg #[.int .i64 0, .int .i64 0, .int .i64 0, .int .i64 0, .int .i64 0, .int .i64 0]) 6 48 Try.underlying65 hi hz0 hz1 hz2 rfl (by decide) (.slice (some ⟨U.heap.size, 0, none⟩) 0 0) 0 [] rfl HOA.out ⟨gd, 0, none⟩ j cd (flat rwRL.f (S.take j)) rfl HLS.out (cells_front HOB.out j) (rw_oneCell _) (by have := HJM.out; unfold maxLen; omega) (by have := HJM.out; omega) (by simp) ?_)
          intro ad5 c5 w5 ho5 hg5 hn5
          have HBU5 : Hid (Below U.heap.size U w5) := below_grown (below_alloc1 _ _) hg5 (fun q hq => by have := (HOA.out.lt q hq).1; omega)
          have HO5 := Lib.hid ho5
          clear ho5 hg5 hn5 HOA HOB HSH
          have HBO5 : Hid (Below wo.heap.size wo w5) := HBU.out.trans (HBU5.out.mono HBU.out.size)
          obtain ⟨x0, x1, x2, x3, x4, x5⟩ := HXC.out w5 HBO5.out
          have HBX : Hid (BoxP w5.heap.size (Rw.cells x).toList (w5.alloc (.cells (Rw.cells x) 84))) := ((Fr.start w5).alloc (Rw.cells x) 84).at 0 rfl
          have HOW : Hid ((w5.alloc (.cells (Rw.cells x) 84)).ownsRow U.heap.size 84 6 (.slice ad5 j c5) j (flat rwRL.f (S.take j))) := own_below HO5.out (below_alloc1 _ _) (Nat.le_refl _)
          have HBA : Hid (Below U.heap.size U (w5.alloc (.cells (Rw.cells x) 84))) := below_next HBU5.out (below_alloc1 _ _)
          clear HO5 HBU5
          go_upto_region 10 with fail
          go_wp2_with (at_builtin; refine wpList_append_own2 _ rfl _ _ 65 rfl U.heap.size 84 i0 (.agg #[.int .i64 0, .int .i64 0, .int .i64 0, .int .i64 0, .int .i64 0, .int .i64 0]) 6 48 Try.underlying65 hi hz0 hz1 hz2 rfl (by decide) (.slice ad5 j c5) j (flat rwRL.f (S.take j)) rfl HOW.out ⟨w5.heap.size, 0, none⟩ 1 1 (Rw.cells x).toList rfl rfl (fun j u hu => by rw [addr_addT, Nat.zero_add]; exact HBX.out j u hu) (by intro u hu; simp [Rw.cells] at hu; rcases hu with rfl | rfl | rfl | rfl | rfl | rfl <;> rfl) (by have := HJM.out; unfold maxLen; omega) (by have := HJM.out; omega) (HBA.out.size) ?_)
          intro ad6 c6 w6 ho6 hg6 hn6
          have HB6 : Hid (Below U.heap.size U w6) := below_grown HBA.out hg6 (fun q hq => (HOW.out.lt q hq).1)
          have HO6 := Lib.hid ho6
          have HOS6 : Hid (w6.ownsRow w.heap.size 84 6 (.slice (some ⟨gd, 0, none⟩) S.length cd) S.length (flat rwRL.f S)) := own_below HOS.out (HBU.out.trans (HB6.out.mono HBU.out.size)) (Nat.le_refl _)
          have HLD : Hid ((flat rwRL.f (S.drop j)).length = (k - j) * 6) := by unfold Hid; rw [flat_length rwRL.hf, List.length_drop, HSL.out]; rfl
          have HQ2 : Hid (j < S.length → q = j * 6) := by unfold Hid; rw [HSL.out]; exact HQ.out
          have hsl := HSLO.out
          clear ho6 hg6 hn6 HOW HBX HBA x0 x1 x2 x3 x4 x5 HBO5
          go_upto_region 11 with fail
          go_wp2_with (at_builtin; refine wpList_append_own2 _ rfl _ _ 65 rfl U.heap.size 84 i0 (.agg #[.int .i64 0, .int .i64 0, .int .i64 0, .int .i64 0, .int .i64 0, .int .i64 0]) 6 48 Try.underlying65 hi hz0 hz1 hz2 rfl (by decide) (.slice ad6 (j + 1) c6) (j + 1) (flat rwRL.f (S.take j) ++ (Rw.cells x).toList) rfl HO6.out ⟨gd, q, none⟩ (k - j) (cd - j) (flat rwRL.f (S.drop j)) rfl HLD.out (cells_back HOS6.out j HQ2.out) (rw_oneCell _) (by have := HJM.out; unfold maxLen; omega) (by have := HJM.out; omega) (HB6.out.size) ?_)
          intro ad7 c7 w7 ho7 hg7 hn7
          have HB7 : Hid (Below U.heap.size U w7) := below_grown HB6.out hg7 (fun q hq => (HO6.out.lt q hq).1)
          have hkk : j + 1 + (k - j) = k + 1 := by have := HJK.out; omega
          rw [hkk] at ho7
          obtain ⟨g7, rfl, hg71, hg72⟩ := own_lt_n ho7 (by omega)
          have hfl : flat rwRL.f (S.take j) ++ (rwRL.f x ++ flat rwRL.f (S.drop j)) = flat rwRL.f (srtR (L.take (k + 1))) := by
            rw [← HNX.out, insR, HPJ.out, flat_append]
            rfl
          have ho7' : w7.ownsRow U.heap.size 84 6 (.slice (some ⟨g7, 0, none⟩) (k + 1) c7) (k + 1) (flat rwRL.f (srtR (L.take (k + 1)))) := by
            rw [← hfl]
            exact ho7
          have HKK := Lib.hid hkk
          have HBO7 : Hid (Below wo.heap.size wo w7) := HBU.out.trans (HB7.out.mono HBU.out.size)
          have HO7 : Hid (w7.ownsRow w.heap.size 84 6 (.slice (some ⟨g7, 0, none⟩) (srtR (L.take (k + 1))).length c7) (srtR (L.take (k + 1))).length (flat rwRL.f (srtR (L.take (k + 1))))) := by
            unfold Hid
            rw [srt_len L (k + 1) (by omega)]
            exact ownsRow_le ho7' (Nat.le_trans HB.out.size HBU.out.size)
          clear ho7 ho7' hg7 hn7 hkk hfl hg71 hg72 hsl HB7 HO6 HOS6
          have hk12 := HJM.out.2
          have hwk : IntKind.i64.wrap ((k : Int) + 1) = (k : Int) + 1 := IntWalk.i64_in _ (by omega)
          go_wp2
          go_roundw
          case rel => exact ⟨k + 1, g7, c7, by go_num, by rw [HKK.out], by omega, HO7, HP.out.below HBO7.out, Lib.hid (below_next HB.out HBO7.out)⟩
          case measure => simp [intOf]; omega
        · obtain ⟨i, hi1⟩ : ∃ i, j = i + 1 := ⟨j - 1, by omega⟩
          have hik : i < S.length := by have := HSL.out; omega
          have hy : S[i]? = some S[i] := List.getElem?_eq_getElem hik
          obtain ⟨y, hyy⟩ : ∃ y, y = S[i] := ⟨_, rfl⟩
          rw [← hyy] at hy
          have hz : decide (0 < j) = true := by simp; omega
          have hz3 : decide ((0 : Int) < (j : Int)) = true := by simp; omega
          have hsub : IntKind.i64.wrap ((j : Int) - 1) = (i : Int) := by rw [IntWalk.i64_in _ (by have e1 := HLN.out; have e2 := HNN.out; omega)]; omega
          have hikI : (i : Int) < (k : Int) := by omega
          have HYC : Hid (∀ W, Below wo.heap.size wo W → (W.cell? ⟨gd, i * 6, none⟩ = some (.int .i64 y.player) ∧ W.cell? ⟨gd, i * 6 + 1, none⟩ = some (.int .i64 y.points) ∧ W.cell? ⟨gd, i * 6 + 2, none⟩ = some (.int .i64 y.wins) ∧ W.cell? ⟨gd, i * 6 + 3, none⟩ = some (.int .i64 y.games) ∧ W.cell? ⟨gd, i * 6 + 4, none⟩ = some (.int .i64 y.against) ∧ W.cell? ⟨gd, i * 6 + 5, none⟩ = some (.int .i64 y.strength))) := fun W hW => rw_cells (l := S) (rw_pcs (own_below HOS.out hW (Nat.le_refl _))).mk' hy
          have HBD : Hid (Below wo.heap.size wo wr.drew) := below_next HBW.out (Below.refl _ _).drew
          have HSS := Lib.hid (And.intro (HXC.out _ HBD.out) (HYC.out _ HBD.out))
          obtain ⟨⟨x0, x1, x2, x3, x4, x5⟩, y0, y1, y2, y3, y4, y5⟩ := HSS.out
          have HCM := Lib.hid (l26Compare_c g1 gd (k * 6) (i * 6) x y wr.drew x1 x2 x4 x5 y1 y2 y4 y5 HXM.out (HSX.out y (List.mem_of_getElem? hy)))
          have hpg : betterR x y = true ∧ posGo x S i = posGo x S k ∨ betterR x y = false ∧ posGo x S k = j := by
            cases hb : betterR x y with
            | true => left; refine ⟨rfl, ?_⟩; rw [← HPG.out, hi1]; exact (posGo_yes hik (by rw [← hyy]; exact hb)).symm
            | false => right; refine ⟨rfl, ?_⟩; rw [← HPG.out, hi1]; exact posGo_no hik (by rw [← hyy]; exact hb)
          have HPQ := Lib.hid hpg
          have HIJ : Hid (j = i + 1) := hi1
          obtain ⟨C, hC⟩ : ∃ C, C = cmpR x y := ⟨_, rfl⟩
          have HBC : Hid (betterR x y = decide (0 < C)) := by unfold Hid betterR; rw [hC]
          rw [← hC] at HCM
          clear hpg hi1 hyy hik hy x0 x1 x2 x3 x4 x5 y0 y1 y2 y3 y4 y5 hC HPG hjp
          go_wp2_with fail
          refine heldH (S := fun V => (V.cell? ⟨g1, k * 6, none⟩ = some (.int .i64 x.player) ∧ V.cell? ⟨g1, k * 6 + 1, none⟩ = some (.int .i64 x.points) ∧ V.cell? ⟨g1, k * 6 + 2, none⟩ = some (.int .i64 x.wins) ∧ V.cell? ⟨g1, k * 6 + 3, none⟩ = some (.int .i64 x.games) ∧ V.cell? ⟨g1, k * 6 + 4, none⟩ = some (.int .i64 x.against) ∧ V.cell? ⟨g1, k * 6 + 5, none⟩ = some (.int .i64 x.strength)) ∧ (V.cell? ⟨gd, i * 6, none⟩ = some (.int .i64 y.player) ∧ V.cell? ⟨gd, i * 6 + 1, none⟩ = some (.int .i64 y.points) ∧ V.cell? ⟨gd, i * 6 + 2, none⟩ = some (.int .i64 y.wins) ∧ V.cell? ⟨gd, i * 6 + 3, none⟩ = some (.int .i64 y.games) ∧ V.cell? ⟨gd, i * 6 + 4, none⟩ = some (.int .i64 y.against) ∧ V.cell? ⟨gd, i * 6 + 5, none⟩ = some (.int .i64 y.strength))) (n := 13) (listed := #[false, false, false, false, false, false, false, false, false, false, false, false, false]) (by kernel_rfl) (by rfl) (by rfl) ?_ (fun hHeld => ?_)
          (focus ((try dsimp only); (first | done | ((first | exact HSS3.out | exact HSS.out); done))))
          (refine takeH (i := 0) (v := ?_) (by decide +kernel) (by decide +kernel) (by kernel_rfl) (by rfl) (by exact fun _ _ _ h => h) (by rfl) ?_ (by assumption) ?_); rotate_left; (focus (intro w hSw; (try dsimp only at hSw); go_simp; (try with_reducible rfl); done)); (try simp only [Act.put, List.setIfInBounds_toArray, List.set_cons_zero, List.set_cons_succ])
          (refine takeH (i := 1) (v := ?_) (by decide +kernel) (by decide +kernel) (by kernel_rfl) (by rfl) (by exact fun _ _ _ h => h) (by rfl) ?_ (by assumption) ?_); rotate_left; (focus (intro w hSw; (try dsimp only at hSw); go_simp; (try with_reducible rfl); done)); (try simp only [Act.put, List.setIfInBounds_toArray, List.set_cons_zero, List.set_cons_succ])
          (refine takeH (i := 2) (v := ?_) (by decide +kernel) (by decide +kernel) (by kernel_rfl) (by rfl) (by exact fun _ _ _ h => h) (by rfl) ?_ (by assumption) ?_); rotate_left; (focus (intro w hSw; (try dsimp only at hSw); go_simp; (try with_reducible rfl); done)); (try simp only [Act.put, List.setIfInBounds_toArray, List.set_cons_zero, List.set_cons_succ])
          (refine takeH (i := 3) (v := ?_) (by decide +kernel) (by decide +kernel) (by kernel_rfl) (by rfl) (by exact fun _ _ _ h => h) (by rfl) ?_ (by assumption) ?_); rotate_left; (focus (intro w hSw; (try dsimp only at hSw); go_simp; (try with_reducible rfl); done)); (try simp only [Act.put, List.setIfInBounds_toArray, List.set_cons_zero, List.set_cons_succ])
          (refine takeH (i := 4) (v := ?_) (by decide +kernel) (by decide +kernel) (by kernel_rfl) (by rfl) (by exact fun _ _ _ h => h) (by rfl) ?_ (by assumption) ?_); rotate_left; (focus (intro w hSw; (try dsimp only at hSw); go_simp; (try with_reducible rfl); done)); (try simp only [Act.put, List.setIfInBounds_toArray, List.set_cons_zero, List.set_cons_succ])
          (refine takeH (i := 5) (v := ?_) (by decide +kernel) (by decide +kernel) (by kernel_rfl) (by rfl) (by exact fun _ _ _ h => h) (by rfl) ?_ (by assumption) ?_); rotate_left; (focus (intro w hSw; (try dsimp only at hSw); go_simp; (try with_reducible rfl); done)); (try simp only [Act.put, List.setIfInBounds_toArray, List.set_cons_zero, List.set_cons_succ])
          (refine takeH (i := 6) (v := ?_) (by decide +kernel) (by decide +kernel) (by kernel_rfl) (by rfl) (by exact fun _ _ _ h => h) (by rfl) ?_ (by assumption) ?_); rotate_left; (focus (intro w hSw; (try dsimp only at hSw); go_simp; (try with_reducible rfl); done)); (try simp only [Act.put, List.setIfInBounds_toArray, List.set_cons_zero, List.set_cons_succ])
          (refine takeH (i := 7) (v := ?_) (by decide +kernel) (by decide +kernel) (by kernel_rfl) (by rfl) (by exact fun _ _ _ h => h) (by rfl) ?_ (by assumption) ?_); rotate_left; (focus (intro w hSw; (try dsimp only at hSw); go_simp; (try with_reducible rfl); done)); (try simp only [Act.put, List.setIfInBounds_toArray, List.set_cons_zero, List.set_cons_succ])
          (refine takeH (i := 8) (v := ?_) (by decide +kernel) (by decide +kernel) (by kernel_rfl) (by rfl) (by exact fun _ _ _ h => h) (by rfl) ?_ (by assumption) ?_); rotate_left; (focus (intro w hSw; (try dsimp only at hSw); go_simp; (try with_reducible rfl); done)); (try simp only [Act.put, List.setIfInBounds_toArray, List.set_cons_zero, List.set_cons_succ])
          (refine takeH (i := 9) (v := ?_) (by decide +kernel) (by decide +kernel) (by kernel_rfl) (by rfl) (by exact fun _ _ _ h => h) (by rfl) ?_ (by assumption) ?_); rotate_left; (focus (intro w hSw; (try dsimp only at hSw); go_simp; (try with_reducible rfl); done)); (try simp only [Act.put, List.setIfInBounds_toArray, List.set_cons_zero, List.set_cons_succ])
          refine nextH (i := 10) (by decide +kernel) (by rfl) (by rfl) (fun K hK => ?_)
          (go_simp; go_at_call 136; (refine HCM.out.mono ?_); (rintro e U ⟨rfl, hU⟩); (have HBU : Hid (Below wo.heap.size wo U) := by obtain ⟨m, rfl⟩ := hU; exact below_next HBD.out (below_draws _ _ _)); (clear hU); (have HSS3 := Lib.hid (And.intro (HXC.out _ HBU.out) (HYC.out _ HBU.out))))
          refine hK.out _ _ ?_ (fun hHeld' => ?_)
          (focus ((try dsimp only); (first | done | ((first | exact HSS3.out | exact HSS.out); done))))
          clear hK K hHeld
          have hHeld := hHeld'
          clear hHeld'
          (try simp only [Act.put, List.setIfInBounds_toArray, List.set_cons_zero, List.set_cons_succ])
          (refine takeH (i := 11) (v := ?_) (by decide +kernel) (by decide +kernel) (by kernel_rfl) (by rfl) (by exact fun _ _ _ h => h) (by rfl) ?_ (by assumption) ?_); rotate_left; (focus (intro w hSw; (try dsimp only at hSw); go_simp; (try with_reducible rfl); done)); (try simp only [Act.put, List.setIfInBounds_toArray, List.set_cons_zero, List.set_cons_succ])
          (refine takeH (i := 12) (v := ?_) (by decide +kernel) (by decide +kernel) (by kernel_rfl) (by rfl) (by exact fun _ _ _ h => h) (by rfl) ?_ (by assumption) ?_); rotate_left; (focus (intro w hSw; (try dsimp only at hSw); go_simp; (try with_reducible rfl); done)); (try simp only [Act.put, List.setIfInBounds_toArray, List.set_cons_zero, List.set_cons_succ])
          refine wpAnyH_done (by decide +kernel) ?_ _
          clear hHeld
          rcases HPQ.out with ⟨hb, hp⟩ | ⟨hb, hp⟩
          · have HPN : Hid (posGo x S i = posGo x S k) := hp
            have hcz : 0 < C := by have := HBC.out; rw [hb] at this; exact of_decide_eq_true this.symm
            clear HPQ HBC hb hp
            go_wp2_with fail
            go_roundw
            case rel => exact ⟨i, by have := HIJ.out; go_num, by have := HIJ.out; have := HJK.out; omega, HPN, HBU⟩
            case measure => have := HIJ.out; simp [intOf]; omega
          · have HPE : Hid (posGo x S k = j) := hp
            have hcz : ¬ 0 < C := by have := HBC.out; rw [hb] at this; exact of_decide_eq_false this.symm
            clear HPQ HBC hb hp hz hz3 hsub hikI HYC HBD HSS HSS3 HCM
            have HPJ : Hid (posGo x S S.length = j) := by have := HPE.out; have e := HSL.out; rw [e]; exact this
            have HKD : Hid (k ≤ cd) := hkc
            have hsh := rslice_hi gd k j cd (by have := HJK.out; have := HKD.out; omega)
            obtain ⟨q, hsl, hq⟩ := rslice_lo gd k j cd (by have := HJK.out; omega) (by have := HKD.out; omega)
            have HSH := Lib.hid hsh
            have HSLO := Lib.hid hsl
            have HQ := Lib.hid hq
            have HJM : Hid (j ≤ 12 ∧ k < 12) := by have e1 := HJK.out; have e2 := HLN.out; have e3 := HNN.out; exact ⟨by omega, by omega⟩
            have HOA : Hid ((U.alloc (.cells #[] 84)).ownsRow U.heap.size 84 6 (.slice (some ⟨U.heap.size, 0, none⟩) 0 0) 0 []) := World.ownsRow_lit (base := U.heap.size) (e := 84) (size := 6) U #[] 0 (Nat.le_refl _) (Nat.zero_le _) rfl
            have HOB : Hid ((U.alloc (.cells #[] 84)).ownsRow w.heap.size 84 6 (.slice (some ⟨gd, 0, none⟩) S.length cd) S.length (flat rwRL.f S)) := own_below HOS.out (below_next HBU.out (below_alloc1 _ _)) (Nat.le_refl _)
            have hls : (flat rwRL.f (S.take j)).length = j * 6 := by rw [flat_length rwRL.hf, List.length_take, Nat.min_eq_left (by have := HJK.out; have := HSL.out; omega)]; rfl
            have HLS := Lib.hid hls
            clear hsl hq hls hkc HPE hj
            go_wp2_with (at_builtin; refine wpList_append_own2 _ rfl _ _ 65 rfl U.heap.size 84 i0 (.agg #[.int .i64 0, .int .i64 0, .int .i64 0, .int .i64 0, .int .i64 0, .int .i64 0]) 6 48 Try.underlying65 hi hz0 hz1 hz2 rfl (by decide) (.slice (some ⟨U.heap.size, 0, none⟩) 0 0) 0 [] rfl HOA.out ⟨gd, 0, none⟩ j cd (flat rwRL.f (S.take j)) rfl HLS.out (cells_front HOB.out j) (rw_oneCell _) (by have := HJM.out; unfold maxLen; omega) (by have := HJM.out; omega) (by simp) ?_)
            intro ad5 c5 w5 ho5 hg5 hn5
            have HBU5 : Hid (Below U.heap.size U w5) := below_grown (below_alloc1 _ _) hg5 (fun q hq => by have := (HOA.out.lt q hq).1; omega)
            have HO5 := Lib.hid ho5
            clear ho5 hg5 hn5 HOA HOB HSH
            have HBO5 : Hid (Below wo.heap.size wo w5) := HBU.out.trans (HBU5.out.mono HBU.out.size)
            obtain ⟨x0, x1, x2, x3, x4, x5⟩ := HXC.out w5 HBO5.out
            have HBX : Hid (BoxP w5.heap.size (Rw.cells x).toList (w5.alloc (.cells (Rw.cells x) 84))) := ((Fr.start w5).alloc (Rw.cells x) 84).at 0 rfl
            have HOW : Hid ((w5.alloc (.cells (Rw.cells x) 84)).ownsRow U.heap.size 84 6 (.slice ad5 j c5) j (flat rwRL.f (S.take j))) := own_below HO5.out (below_alloc1 _ _) (Nat.le_refl _)
            have HBA : Hid (Below U.heap.size U (w5.alloc (.cells (Rw.cells x) 84))) := below_next HBU5.out (below_alloc1 _ _)
            clear HO5 HBU5
            go_upto_region 10 with fail
            go_wp2_with (at_builtin; refine wpList_append_own2 _ rfl _ _ 65 rfl U.heap.size 84 i0 (.agg #[.int .i64 0, .int .i64 0, .int .i64 0, .int .i64 0, .int .i64 0, .int .i64 0]) 6 48 Try.underlying65 hi hz0 hz1 hz2 rfl (by decide) (.slice ad5 j c5) j (flat rwRL.f (S.take j)) rfl HOW.out ⟨w5.heap.size, 0, none⟩ 1 1 (Rw.cells x).toList rfl rfl (fun j u hu => by rw [addr_addT, Nat.zero_add]; exact HBX.out j u hu) (by intro u hu; simp [Rw.cells] at hu; rcases hu with rfl | rfl | rfl | rfl | rfl | rfl <;> rfl) (by have := HJM.out; unfold maxLen; omega) (by have := HJM.out; omega) (HBA.out.size) ?_)
            intro ad6 c6 w6 ho6 hg6 hn6
            have HB6 : Hid (Below U.heap.size U w6) := below_grown HBA.out hg6 (fun q hq => (HOW.out.lt q hq).1)
            have HO6 := Lib.hid ho6
            have HOS6 : Hid (w6.ownsRow w.heap.size 84 6 (.slice (some ⟨gd, 0, none⟩) S.length cd) S.length (flat rwRL.f S)) := own_below HOS.out (HBU.out.trans (HB6.out.mono HBU.out.size)) (Nat.le_refl _)
            have HLD : Hid ((flat rwRL.f (S.drop j)).length = (k - j) * 6) := by unfold Hid; rw [flat_length rwRL.hf, List.length_drop, HSL.out]; rfl
            have HQ2 : Hid (j < S.length → q = j * 6) := by unfold Hid; rw [HSL.out]; exact HQ.out
            have hsl := HSLO.out
            clear ho6 hg6 hn6 HOW HBX HBA x0 x1 x2 x3 x4 x5 HBO5
            go_upto_region 11 with fail
            go_wp2_with (at_builtin; refine wpList_append_own2 _ rfl _ _ 65 rfl U.heap.size 84 i0 (.agg #[.int .i64 0, .int .i64 0, .int .i64 0, .int .i64 0, .int .i64 0, .int .i64 0]) 6 48 Try.underlying65 hi hz0 hz1 hz2 rfl (by decide) (.slice ad6 (j + 1) c6) (j + 1) (flat rwRL.f (S.take j) ++ (Rw.cells x).toList) rfl HO6.out ⟨gd, q, none⟩ (k - j) (cd - j) (flat rwRL.f (S.drop j)) rfl HLD.out (cells_back HOS6.out j HQ2.out) (rw_oneCell _) (by have := HJM.out; unfold maxLen; omega) (by have := HJM.out; omega) (HB6.out.size) ?_)
            intro ad7 c7 w7 ho7 hg7 hn7
            have HB7 : Hid (Below U.heap.size U w7) := below_grown HB6.out hg7 (fun q hq => (HO6.out.lt q hq).1)
            have hkk : j + 1 + (k - j) = k + 1 := by have := HJK.out; omega
            rw [hkk] at ho7
            obtain ⟨g7, rfl, hg71, hg72⟩ := own_lt_n ho7 (by omega)
            have hfl : flat rwRL.f (S.take j) ++ (rwRL.f x ++ flat rwRL.f (S.drop j)) = flat rwRL.f (srtR (L.take (k + 1))) := by
              rw [← HNX.out, insR, HPJ.out, flat_append]
              rfl
            have ho7' : w7.ownsRow U.heap.size 84 6 (.slice (some ⟨g7, 0, none⟩) (k + 1) c7) (k + 1) (flat rwRL.f (srtR (L.take (k + 1)))) := by
              rw [← hfl]
              exact ho7
            have HKK := Lib.hid hkk
            have HBO7 : Hid (Below wo.heap.size wo w7) := HBU.out.trans (HB7.out.mono HBU.out.size)
            have HO7 : Hid (w7.ownsRow w.heap.size 84 6 (.slice (some ⟨g7, 0, none⟩) (srtR (L.take (k + 1))).length c7) (srtR (L.take (k + 1))).length (flat rwRL.f (srtR (L.take (k + 1))))) := by
              unfold Hid
              rw [srt_len L (k + 1) (by omega)]
              exact ownsRow_le ho7' (Nat.le_trans HB.out.size HBU.out.size)
            clear ho7 ho7' hg7 hn7 hkk hfl hg71 hg72 hsl HB7 HO6 HOS6
            have hk12 := HJM.out.2
            have hwk : IntKind.i64.wrap ((k : Int) + 1) = (k : Int) + 1 := IntWalk.i64_in _ (by omega)
            go_wp2
            go_roundw
            case rel => exact ⟨k + 1, g7, c7, by go_num, by rw [HKK.out], by omega, HO7, HP.out.below HBO7.out, Lib.hid (below_next HB.out HBO7.out)⟩
            case measure => simp [intOf]; omega
    · have hkl : k = L.length := by omega
      subst hkl
      have ho := HO.out
      rw [List.take_length] at ho
      have HE := Lib.hid (And.intro (rw_pcs ho) HB.out)
      have hle : (srtR L).length = L.length := by have := srt_len L L.length (Nat.le_refl _); rwa [List.take_length] at this
      have HLE := Lib.hid hle
      clear ho HO hle HP
      go_wp2
      go_ret
      exact ⟨some ⟨gd, 0, none⟩, cd, by rw [HLE.out]; rfl, HE.out.1, HE.out.2⟩

end Go.Proofs.Ytbjgigdkbjabaaa
