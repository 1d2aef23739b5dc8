/- Leg: the legal moves: both functions. Each contract holds for every argument, under the premises that it states. -/
import Derived.Test.YteabheocbkcmnaaRes
import Derived.Test.YteabheocbkcmnaaPath
import Derived.Deep.AppendLies
namespace Go.Proofs.Yteabheocbkcmnaa
set_option linter.unusedSimpArgs false
set_option linter.unusedVariables false
set_option linter.unnecessarySimpa false
open Go.RowKit Go.ChangeShapes Go.WideShapes Go.ChangeAt Go.Joins

def legalP (r : R) (p : P) : List Int × Int := if p.ok r = true then ((allP r p).map Mk.move, 0) else ([], 1)
theorem allP_len8 {r : R} {p : P} (h : p.ok r = true) : (allP r p).length ≤ 8 := by
  have h1 := allGo_len r p r.pits.toNat
  have h2 := (P.ok_parts h).1.hi
  unfold allP
  omega
theorem legalP_len (r : R) (p : P) : (legalP r p).1.length ≤ 1048576 := by
  unfold legalP
  split
  · rename_i h; have := allP_len8 h; simp; omega
  · simp
/-- the cells of a list of results, in one block -/
theorem mks_box {w : World} {base c : Nat} {ad : Option Addr} {l : List (Mk × MA)} (h : MksOwn w base ad c l) (hb : base ≤ w.heap.size) : ∃ g, BoxP g (mcells l) w ∧ base ≤ g ∧ (0 < l.length → ad = some ⟨g, 0, none⟩) := by
  by_cases hl : 0 < l.length
  · obtain ⟨g, hg, h1, h2⟩ := own_lt_n h.row hl
    subst hg
    refine ⟨g, fun j v hv => ?_, h1, fun _ => rfl⟩
    have hml : (mcells l).length = l.length * 6 := h.row.1
    have hj : j < l.length * 6 := by
      rcases Nat.lt_or_ge j (l.length * 6) with h | h
      · exact h
      · rw [List.getElem?_eq_none (by omega)] at hv; cases hv
    rw [h.row.cellAt j hj]
    exact hv
  · obtain rfl : l = [] := List.eq_nil_of_length_eq_zero (by omega)
    refine ⟨w.heap.size, ?_, hb, fun h => absurd h hl⟩
    intro j v hv
    simp [mcells] at hv
theorem BoxP.grown2 {w w' : World} {g : Nat} {cs : List Value} {row : Option Nat} (h : BoxP g cs w) (hg : w.grownBy w' row) (hn : ¬ row = some g) : BoxP g cs w' := fun j v hv =>
  (hg.cell_far ⟨g, j, none⟩ (World.block_lt_of_cell? w _ (h j v hv)) (fun e => hn e.symm)).trans (h j v hv)
theorem BoxP.below {w w' : World} {g : Nat} {cs : List Value} (h : BoxP g cs w) (hb : Below w.heap.size w w') : BoxP g cs w' := fun j v hv =>
  (hb.cell (show (Addr.mk g j none).block < _ from World.block_lt_of_cell? w _ (h j v hv))).trans (h j v hv)
theorem box_cells {w : World} {g k : Nat} {l : List (Mk × MA)} {x : Mk × MA} (h : BoxP g (mcells l) w) (hx : l[k]? = some x) :
    w.cell? ⟨g, k * 6, none⟩ = some (.int .i64 x.1.move) ∧ w.cell? ⟨g, k * 6 + 1, none⟩ = some (.int .i64 x.1.gain) ∧ w.cell? ⟨g, k * 6 + 2, none⟩ = some (.bool x.1.again) ∧
    w.cell? ⟨g, k * 6 + 3, none⟩ = some (.slice x.2.pa x.1.pits.length x.2.pc) ∧ w.cell? ⟨g, k * 6 + 4, none⟩ = some (.slice x.2.sa x.1.stores.length x.2.sc) ∧ w.cell? ⟨g, k * 6 + 5, none⟩ = some (.int .i64 x.1.player) := by
  have key : ∀ j v, j < 6 → (x.1.cells x.2.pa x.2.pc x.2.sa x.2.sc).toList[j]? = some v → w.cell? ⟨g, k * 6 + j, none⟩ = some v := fun j v hj hv => h _ _ (by rw [mcells_get l k j x hx hj]; exact hv)
  exact ⟨key 0 _ (by omega) rfl, key 1 _ (by omega) rfl, key 2 _ (by omega) rfl, key 3 _ (by omega) rfl, key 4 _ (by omega) rfl, key 5 _ (by omega) rfl⟩
/-- a round over the results -/
structure LgSt (w wr : World) (l : List (Mk × MA)) (g k : Nat) (ta : Option Addr) (tc : Nat) (acc : List Int) : Prop where
  kl : k ≤ l.length
  ac : acc = (l.take k).map (fun x => x.1.move)
  own : OwnI wr (w.heap.size + 1 + 1) ta tc acc
  no : ∀ b, (Value.slice ta acc.length tc).ownBlock = some b → ¬ b = g
  box : BoxP g (mcells l) wr
  below : Below w.heap.size w wr
  sz : w.heap.size + 1 + 1 ≤ wr.heap.size

set_option maxRecDepth 100000 in
set_option maxHeartbeats 8000000 in
theorem iLegalMoves_c (r : R) (p : P) (pa sa : Option Addr) (pc sc : Nat) (w : World) (h : PRow w p pa sa) (m1 : p.pits.length ≤ 16777216) (m2 : p.stores.length ≤ 16777216) (hc : p.pits.length ≤ pc) (hcm : pc ≤ maxLen) :
    Calls Try.prog 60 #[r.val, p.val pa pc sa sc] w (IntsRes2 w (legalP r p)) := by
  obtain ⟨i0, hi, hz0, hz1, hz2⟩ := info_parts infoI
  have F0 := ((Fr.start w).alloc r.cells 24).alloc (p.cells pa pc sa sc) 27
  have HV := fun W (H : PRow W p pa sa) => ValidPosition_c r p pa sa pc sc W H m1 m2
  cases hok : p.ok r
  · simp only [hok] at HV
    have HV := Lib.hid HV
    have HE : Hid (legalP r p = ([], 1)) := by unfold Hid legalP; rw [hok]; rfl
    clear hok
    go_enter Try.func60, Try.ntmps60
    go_wp2_with fail
    refine (HV.out _ (h.below F0.below (Nat.le_refl _))).mono ?_
    rintro e w1 ⟨rfl, hb1⟩
    have F1 := F0.step hb1
    clear hb1 F0
    go_wp2
    go_ret2
    rw [HE.out]
    exact ⟨none, 0, rfl, World.ownsRow_nil _ _ _ _, F1.below⟩
  · simp only [hok] at HV
    have HV := Lib.hid HV
    have HE : Hid (legalP r p = ((allP r p).map Mk.move, 0)) := by unfold Hid legalP; rw [hok]; rfl
    have HR := Lib.hid (fun W (H : PRow W p pa sa) => results_c r p hok pa sa pc sc W H m1 m2 hc hcm)
    have HLN := Lib.hid (allP_len8 hok)
    clear hok
    go_enter Try.func60, Try.ntmps60
    go_wp2_with fail
    refine (HV.out _ (h.below F0.below (Nat.le_refl _))).mono ?_
    rintro e w1 ⟨rfl, hb1⟩
    have F1 := F0.step hb1
    have O0 := own_none w1 (w.heap.size + 1 + 1) (by have := F1.le 0 rfl; simpa using this)
    have F1' := F1.step (below_alloc1 w1 (.cells #[] 2))
    obtain ⟨c0, c1, c2, c3, c4, c5, c6, c7, c8⟩ := R.boxc (F1.at 1 rfl)
    obtain ⟨d0, d1, d2⟩ := P.boxc (F1.at 0 rfl)
    have zA : w.heap.size < w1.heap.size := F1.le 1 rfl
    have zB : w.heap.size + 1 < w1.heap.size := by have := F1.le 0 rfl; simp at this; omega
    simp only [World.size_alloc] at d0 d1 d2
    have hz1' : w.heap.size + 1 + 1 ≤ w1.heap.size := by omega
    have HO0 := Lib.hid O0
    clear hb1 F0 O0 F1
    go_wp2_with fail
    refine (HR.out _ (h.below F1'.below (Nat.le_refl _))).mono ?_
    rintro e w2 ⟨l, ad, c, hl, rfl, ho, hb2⟩
    have F2 := F1'.step hb2
    have HL := Lib.hid hl
    have hs2 := hb2.size
    obtain ⟨g, hbox, hg0, hgd⟩ := mks_box ho hs2
    have hst0 : Hid (LgSt w w2 l g 0 (some ⟨w1.heap.size, 0, none⟩) 0 []) := ⟨Nat.zero_le _, rfl, own_below HO0.out hb2 (Nat.le_refl _), fun b hb => by
      have hb' : w1.heap.size = b := by simpa [Value.ownBlock] using hb
      simp only [World.size_alloc] at hg0
      omega, hbox, F2.below, Nat.le_trans hz1' (Nat.le_trans (by simp) hs2)⟩
    have hll : l.length ≤ 8 := by
      have h1 := HLN.out
      rw [← HL.out, List.length_map] at h1
      exact h1
    have HGD := Lib.hid hgd
    clear hb2 hl ho F1' F2 hbox hg0 hgd c0 c1 c2 c3 c4 c5 c6 c7 c8 d0 d1 d2 zA zB HO0
    go_wp2_with fail
    go_loopw [6, 18] (fun o i wr => ∃ (k : Nat) (ta : Option Addr) (tc : Nat) (acc : List Int), i = .int .i64 k ∧ o = .slice ta acc.length tc ∧ LgSt w wr l g k ta tc acc) (fun _ i _ => l.length - (intOf i).toNat)
    case atStart => exact ⟨0, _, 0, [], rfl, rfl, hst0.out⟩
    case round =>
      clear hst0
      obtain ⟨k, ta, tc, acc, rfl, rfl, hst⟩ := hrel
      have HST := Lib.hid hst
      have hkl := hst.kl
      clear hst
      by_cases hk : k < l.length
      case neg =>
        have HA : Hid (acc = (allP r p).map Mk.move) := by
          unfold Hid
          rw [HST.out.ac, ← HL.out, List.take_of_length_le (by omega), List.map_map]
          rfl
        go_wp2
        go_ret2
        rw [HE.out]
        have hA := HA.out
        subst hA
        exact ⟨ta, tc, rfl, ownsRow_le HST.out.own (by omega), HST.out.below⟩
      obtain ⟨x, hx⟩ : ∃ x, l[k]? = some x := ⟨l[k], by simp [hk]⟩
      have HX := Lib.hid hx
      obtain ⟨q0, q1, q2, q3, q4, q5⟩ := box_cells HST.out.box hx
      obtain rfl := HGD.out (by omega)
      have hki : (k : Int) < (l.length : Int) := by omega
      have hgl : g < wr.heap.size := World.block_lt_of_cell? wr _ q0
      have hal : acc.length ≤ 100 := by rw [HST.out.ac]; simp; omega
      have hwb : w.heap.size + 1 + 1 ≤ wr.heap.size := HST.out.sz
      have hown := HST.out.own
      unfold OwnI at hown
      clear hx
      go_wp2_with (at_builtin; refine wpList_append_own2 _ rfl _ _ 25 rfl (w.heap.size + 1 + 1) 2 i0 (.int .i64 0) 1 8 Try.underlying25 hi hz0 hz1 hz2 rfl (by decide) _ _ _ rfl ((hown.alloc _).alloc _) ⟨wr.heap.size + 1, 0, none⟩ 1 1 [.int .i64 x.1.move] rfl rfl (by intro j u hu; match j, hu with | 0, hu => (simp at hu; subst hu; simp [Addr.add])) (by intro u hu; simp at hu; subst hu; rfl) (by unfold maxLen; omega) (by omega) (by simp; omega) ?_)
      intro ad' c' w4 hown4 hg4 hn4
      have hB5 : Below wr.heap.size wr ((wr.alloc (.cells (x.1.cells x.2.pa x.2.pc x.2.sa x.2.sc) 107)).alloc (.cells #[.int .i64 x.1.move] 2)) := (below_alloc1 wr _).trans ((below_alloc1 _ _).mono (by simp))
      have HN : Hid (LgSt w w4 l g (k + 1) ad' c' (acc ++ [x.1.move])) := by
        have hno : ¬ (Value.slice ta acc.length tc).ownBlock = some g := fun e => HST.out.no g e rfl
        refine ⟨by omega, ?_, ?_, ?_, ?_, ?_, Nat.le_trans hwb (Nat.le_trans hB5.size hg4.size)⟩
        · rw [List.take_add_one, HX.out, List.map_append, ← HST.out.ac]; rfl
        · unfold OwnI; simpa using hown4
        · intro b hb e
          subst e
          rw [List.length_append] at hb
          rcases hn4 b (by simpa using hb) with h1 | h1
          · exact hno h1
          · (try simp at h1); omega
        · exact BoxP.grown2 (BoxP.below HST.out.box hB5) hg4 hno
        · exact below_grown (below_next HST.out.below hB5) hg4 (fun k hk => by have := (HST.out.own.lt k hk).1; omega)
      clear hown4 hg4 hn4 hown q0 q1 q2 q3 q4 q5 hB5
      go_wp2
      go_roundw
      case rel => exact ⟨k + 1, ad', c', acc ++ [x.1.move], by go_num, by simp, HN.out⟩
      case measure => (simp [intOf]; omega)

end Go.Proofs.Yteabheocbkcmnaa
