/- Greed: the first move with the greatest gain: plain facts, and both functions. Each holds under the premises that it states. -/
import Derived.Test.YteabheocbkcmnaaLeg
namespace Go.Proofs.Yteabheocbkcmnaa
set_option linter.unusedSimpArgs false
set_option linter.unusedVariables false
set_option linter.unnecessarySimpa false
open Go.RowKit Go.ChangeShapes Go.WideShapes Go.ChangeAt Go.Joins

/-! ### no store loses seeds -/
theorem set_ge (S : List Int) (k i : Nat) (v : Int) (h : S.getD k 0 ≤ v) : S.getD i 0 ≤ (S.set k v).getD i 0 := by
  simp only [List.getD_eq_getElem?_getD] at *
  rw [List.getElem?_set]
  split
  · rename_i e
    subst e
    split
    · simpa using h
    · rename_i h2
      rw [List.getElem?_eq_none (by omega)]; simp
  · simp
theorem bump_ge (S : List Int) (q : Int) (i : Nat) : S.getD i 0 ≤ (bump S q).getD i 0 := by
  unfold bump
  exact set_ge _ _ _ _ (by omega)
theorem lapGo_ge (r : R) (pl fr : Int) (i : Nat) : ∀ (n : Nat) (place : Int) (P S T : List Int), S.getD i 0 ≤ (lapGo r pl fr n place P S T).stores.getD i 0
  | 0, place, P, S, T => by simp only [lapGo]; omega
  | n + 1, place, P, S, T => by
    simp only [lapGo]
    split
    · exact Int.le_trans (bump_ge S pl i) (lapGo_ge r pl fr i n _ _ _ _)
    · exact lapGo_ge r pl fr i n _ _ _ _
theorem lapP_ge (r : R) (pl fr : Int) (i : Nat) (P S T : List Int) : S.getD i 0 ≤ (lapP r pl fr P S T).stores.getD i 0 := by
  unfold lapP
  exact lapGo_ge r pl fr i _ _ _ _ _
theorem sowGo_ge (r : R) (pl : Int) (i : Nat) : ∀ (k : Nat) (L L' : Lap) (n : Int), sowGo r pl k L = some (L', n) → L.stores.getD i 0 ≤ L'.stores.getD i 0
  | 0, L, L', n, h => by
    unfold sowGo at h
    split at h
    · simp at h
    · simp at h
      obtain ⟨rfl, rfl⟩ := h
      exact Int.le_refl _
  | k + 1, L, L', n, h => by
    unfold sowGo at h
    split at h
    · exact Int.le_trans (lapP_ge r pl L.last i L.pits L.stores L.path) (sowGo_ge r pl i k _ L' n h)
    · simp at h
      obtain ⟨rfl, rfl⟩ := h
      exact Int.le_refl _
theorem doneP_gain {r : R} {p : P} {move : Int} (h : (doneP r p move).code = 0) (i : Nat) : p.stores.getD i 0 ≤ (doneP r p move).stores.getD i 0 := by
  obtain ⟨hc0, L, n, ho⟩ := doneP_zero h
  obtain ⟨hok, hbd, ⟨pn, hpn, hpn1⟩, t, hB, ht1, hpl⟩ := sowP_brd hc0 ho
  have hd : (doneP r p move).stores = (takeP r p.player L.pits L.stores L.last).2 := by
    have h1 := h
    rw [doneP_ok hc0 ho] at h1 ⊢
    unfold doneL at h1 ⊢
    by_cases a : r.slam = 1 ∧ slamP r p.player L.pits L.last = true
    · rw [if_pos a] at h1; simp [Done.bad] at h1
    · rw [if_neg a] at h1 ⊢
      split at h1
      · simp [Done.bad] at h1
      · rename_i b; rw [if_neg b]
  rw [hd]
  have h1 : p.stores.getD i 0 ≤ L.stores.getD i 0 := Int.le_trans (lapP_ge r p.player _ i p.pits p.stores []) (sowGo_ge r p.player i 99 _ L n ho)
  refine Int.le_trans h1 ?_
  obtain ⟨g0, g1⟩ := gainP_bd (hB.bp ht1) (by omega) (capP r pn L.pits L.last)
  rw [hpn]
  simp only [takeP, Int.toNat_natCast]
  exact set_ge _ _ _ _ (by omega)
theorem allP_pos {r : R} {p : P} {x : Mk} (h : x ∈ allP r p) : 0 ≤ x.gain ∧ 0 ≤ x.move ∧ x.gain ≤ 2000 := by
  obtain ⟨m, hx, hc, hm⟩ := allP_of h
  have hd : (doneP r p m).code = 0 := by rw [← makeP_code]; exact hc
  have h1 := doneP_gain hd p.player.toNat
  obtain ⟨_, _, f3, f4, _⟩ := doneP_facts hd
  have h3 := f3 p.player.toNat
  have h4 := f4 p.player.toNat
  refine ⟨?_, by omega, ?_⟩
  · rw [hx, makeP_ok hd]; simp only; omega
  · rw [hx, makeP_ok hd]; simp only; omega

/-! ### the greatest gain -/
def gGo : List Mk → Int → Int → Int × Int
  | [], m, g => (m, g)
  | x :: l, m, g => if x.gain > g then gGo l x.move x.gain else gGo l m g
theorem gGo_snoc (x : Mk) : ∀ (l : List Mk) (m g : Int), gGo (l ++ [x]) m g = if x.gain > (gGo l m g).2 then (x.move, x.gain) else gGo l m g
  | [], m, g => by simp only [List.nil_append, gGo]; rfl
  | y :: l, m, g => by
    simp only [List.cons_append, gGo]
    split <;> exact gGo_snoc x l _ _
theorem gGo_pos : ∀ (l : List Mk) (m g : Int), (∀ x ∈ l, 0 ≤ x.move) → 0 ≤ m → 0 ≤ (gGo l m g).1
  | [], m, g, h, hm => hm
  | x :: l, m, g, h, hm => by
    simp only [gGo]
    split
    · exact gGo_pos l _ _ (fun y hy => h y (by simp [hy])) (h x (by simp))
    · exact gGo_pos l _ _ (fun y hy => h y (by simp [hy])) hm
def greedyP (r : R) (p : P) : Int × Int × Int :=
  if p.ok r = true then (if allP r p = [] then (0, 0, 3) else ((gGo (allP r p) (-1) (-1)).1, (gGo (allP r p) (-1) (-1)).2, 0)) else (0, 0, 1)
theorem gGo_all {r : R} {p : P} (h : ¬ allP r p = []) : 0 ≤ (gGo (allP r p) (-1) (-1)).1 := by
  have hm : ∀ x ∈ allP r p, 0 ≤ x.gain ∧ 0 ≤ x.move := fun x hx => ⟨(allP_pos hx).1, (allP_pos hx).2.1⟩
  revert h hm
  generalize allP r p = l
  intro h hm
  cases l with
  | nil => exact absurd rfl h
  | cons x l =>
    have h1 := hm x (by simp)
    simp only [gGo]
    rw [if_pos (by omega)]
    exact gGo_pos l _ _ (fun y hy => (hm y (by simp [hy])).2) h1.2

/-- a round over the results -/
structure GrSt (w wr : World) (l : List (Mk × MA)) (g k : Nat) (m n : Int) : Prop where
  kl : k ≤ l.length
  ac : (m, n) = gGo ((l.take k).map Prod.fst) (-1) (-1)
  box : BoxP g (mcells l) wr
  below : Below w.heap.size w wr

set_option maxRecDepth 100000 in
set_option maxHeartbeats 8000000 in
theorem iGreedyMove_c (r : R) (p : P) (pa sa : Option Addr) (pc sc : Nat) (w : World) (h : PRow w p pa sa) (m1 : p.pits.length ≤ 16777216) (m2 : p.stores.length ≤ 16777216) (hc : p.pits.length ≤ pc) (hcm : pc ≤ maxLen) :
    Calls Try.prog 71 #[r.val, p.val pa pc sa sc] w fun e w' => e = .returned (.tuple #[.int .i64 (greedyP r p).1, .int .i64 (greedyP r p).2.1, .int .i64 (greedyP r p).2.2]) ∧ Below w.heap.size w w' := by
  have F0 := ((Fr.start w).alloc r.cells 24).alloc (p.cells pa pc sa sc) 27
  have HV := fun W (H : PRow W p pa sa) => ValidPosition_c r p pa sa pc sc W H m1 m2
  obtain ⟨y, hy⟩ : ∃ y, y = greedyP r p := ⟨_, rfl⟩
  rw [← hy]
  cases hok : p.ok r
  · simp only [hok] at HV
    have HV := Lib.hid HV
    have HE : Hid (y = (0, 0, 1)) := by unfold Hid; rw [hy, greedyP, hok]; rfl
    clear hok hy
    go_enter Try.func71, Try.ntmps71
    go_wp2_with fail
    refine (HV.out _ (h.below F0.below (Nat.le_refl _))).mono ?_
    rintro e w1 ⟨rfl, hb1⟩
    have F1 := F0.step hb1
    clear hb1 F0
    go_wp2
    go_ret3
    rw [HE.out]
    exact ⟨rfl, F1.below⟩
  · simp only [hok] at HV
    have HV := Lib.hid HV
    have HE : Hid (y = if allP r p = [] then (0, 0, 3) else ((gGo (allP r p) (-1) (-1)).1, (gGo (allP r p) (-1) (-1)).2, 0)) := by unfold Hid; rw [hy, greedyP, hok]; rfl
    have HR := Lib.hid (fun W (H : PRow W p pa sa) => results_c r p hok pa sa pc sc W H m1 m2 hc hcm)
    have HLN := Lib.hid (allP_len8 hok)
    clear hok hy
    go_enter Try.func71, Try.ntmps71
    go_wp2_with fail
    refine (HV.out _ (h.below F0.below (Nat.le_refl _))).mono ?_
    rintro e w1 ⟨rfl, hb1⟩
    have F1 := F0.step hb1
    obtain ⟨c0, c1, c2, c3, c4, c5, c6, c7, c8⟩ := R.boxc (F1.at 1 rfl)
    obtain ⟨d0, d1, d2⟩ := P.boxc (F1.at 0 rfl)
    simp only [World.size_alloc] at d0 d1 d2
    clear hb1 F0
    go_wp2_with fail
    refine (HR.out _ (h.below F1.below (Nat.le_refl _))).mono ?_
    rintro e w2 ⟨l, ad, c, hl, rfl, ho, hb2⟩
    have F2 := F1.step hb2
    have HL := Lib.hid hl
    obtain ⟨g, hbox, hg0, hgd⟩ := mks_box ho hb2.size
    have hst0 : Hid (GrSt w w2 l g 0 (-1) (-1)) := ⟨Nat.zero_le _, rfl, hbox, F2.below⟩
    have hll : l.length ≤ 8 := by
      have h1 := HLN.out
      rw [← HL.out, List.length_map] at h1
      exact h1
    have HGD := Lib.hid hgd
    clear hb2 hl ho F1 F2 hbox hg0 hgd c0 c1 c2 c3 c4 c5 c6 c7 c8 d0 d1 d2
    go_wp2_with fail
    go_loopw [7, 8, 19] (fun a b i wr => ∃ (k : Nat) (m n : Int), i = .int .i64 k ∧ a = .int .i64 m ∧ b = .int .i64 n ∧ GrSt w wr l g k m n) (fun _ _ i _ => l.length - (intOf i).toNat)
    case atStart => exact ⟨0, -1, -1, rfl, rfl, rfl, hst0.out⟩
    case round =>
      clear hst0
      obtain ⟨k, m, n, rfl, rfl, rfl, hst⟩ := hrel
      have HST := Lib.hid hst
      have hkl := hst.kl
      clear hst
      by_cases hk : k < l.length
      case neg =>
        have HA : Hid ((m, n) = gGo (allP r p) (-1) (-1)) := by
          unfold Hid
          rw [HST.out.ac, ← HL.out, List.take_of_length_le (by omega)]
        by_cases hem : allP r p = []
        · have hA := HA.out
          rw [hem] at hA
          simp only [gGo, Prod.mk.injEq] at hA
          obtain ⟨rfl, rfl⟩ := hA
          have HEM := Lib.hid hem
          clear hem
          go_wp2
          go_ret3
          rw [HE.out, if_pos HEM.out]
          exact ⟨rfl, HST.out.below⟩
        · have hm0 : ¬ m < 0 := by
            have h1 := gGo_all hem
            rw [← HA.out] at h1
            simp only at h1
            omega
          have HEM := Lib.hid hem
          clear hem
          go_wp2
          go_ret3
          rw [HE.out, if_neg HEM.out, ← HA.out]
          exact ⟨rfl, HST.out.below⟩
      obtain ⟨x, hx⟩ : ∃ x, l[k]? = some x := ⟨l[k], by simp [hk]⟩
      have HX := Lib.hid hx
      obtain ⟨q0, q1, q2, q3, q4, q5⟩ := box_cells HST.out.box hx
      obtain rfl := HGD.out (by omega)
      have hki : (k : Int) < (l.length : Int) := by omega
      have hgl : g < wr.heap.size := World.block_lt_of_cell? wr _ q0
      have hac : Hid (gGo ((l.take (k + 1)).map Prod.fst) (-1) (-1) = if x.1.gain > n then (x.1.move, x.1.gain) else (m, n)) := by
        unfold Hid
        rw [List.take_add_one, hx, List.map_append]
        simp only [Option.toList_some, List.map_cons, List.map_nil]
        rw [gGo_snoc, ← HST.out.ac]
      have hB5 : Hid (Below wr.heap.size wr (wr.alloc (.cells (x.1.cells x.2.pa x.2.pc x.2.sa x.2.sc) 107))) := below_alloc1 wr _
      clear hx
      by_cases hgt : x.1.gain > n
      · have HN : Hid (GrSt w (wr.alloc (.cells (x.1.cells x.2.pa x.2.pc x.2.sa x.2.sc) 107)) l g (k + 1) x.1.move x.1.gain) := ⟨by omega, by rw [hac.out, if_pos hgt], BoxP.below HST.out.box hB5.out, below_next HST.out.below hB5.out⟩
        go_wp2
        go_region
        go_wp2
        go_roundw
        case rel =>
          first
          | exact ⟨k + 1, x.1.move, x.1.gain, by go_num, rfl, rfl, HN.out⟩
          | exact ⟨k + 1, x.1.move, x.1.gain, by go_num, rfl, rfl, ⟨HN.out.kl, HN.out.ac, HN.out.box.below ((Below.refl _ _).drew), HN.out.below.drew⟩⟩
        case measure => (simp [intOf]; omega)
      · have HN : Hid (GrSt w (wr.alloc (.cells (x.1.cells x.2.pa x.2.pc x.2.sa x.2.sc) 107)) l g (k + 1) m n) := ⟨by omega, by rw [hac.out, if_neg hgt], BoxP.below HST.out.box hB5.out, below_next HST.out.below hB5.out⟩
        go_wp2
        go_roundw
        case rel => exact ⟨k + 1, m, n, by go_num, rfl, rfl, HN.out⟩
        case measure => (simp [intOf]; omega)

end Go.Proofs.Yteabheocbkcmnaa
