/- Srch1: the value and the size of a search: the program's functions. Each contract holds for every argument, under the premises that it states. -/
import Derived.Test.YtolfanonjmfgcaaSrP
namespace Go.Proofs.Ytolfanonjmfgcaa
set_option linter.unusedSimpArgs false
set_option linter.unusedVariables false
set_option linter.unnecessarySimpa false
open Go.RowKit Go.ChangeShapes Go.WideShapes Go.ChangeAt Go.Joins

def SzC (r : R) (d : Nat) : Prop := ∀ (p : P) (_ : p.ok r = true) (pa sa : Option Addr) (pc sc : Nat) (w : World) (_ : PRow w p pa sa) (_ : p.pits.length ≤ pc) (_ : pc ≤ maxLen),
    Calls Try.prog 37 #[r.val, p.val pa pc sa sc, .int .i64 (d : Int)] w fun e w' => e = .returned (.int .i64 (sizeU r d p)) ∧ Below w.heap.size w w'
structure SuSt (w wr : World) (r : R) (d : Nat) (l : List (Mk × MA)) (ad : Option Addr) (c g k : Nat) (s tgt : Int) : Prop where
  kl : k ≤ l.length
  go : suGo (sizeU r d) ((l.drop k).map Prod.fst) s = tgt
  s0 : 1 ≤ s
  s1 : s ≤ 3000
  own : MksOwn wr w.heap.size ad c l
  box : BoxP g (mcells l) wr
  rx : BoxP w.heap.size r.cells.toList wr
  below : Below w.heap.size w wr
theorem suGo_at (f : P → Int) (l : List (Mk × MA)) (k : Nat) (s : Int) (x : Mk × MA) (hx : l[k]? = some x) : suGo f ((l.drop k).map Prod.fst) s = if s + f (nxt x.1) > 3000 then s + f (nxt x.1) else suGo f ((l.drop (k + 1)).map Prod.fst) (s + f (nxt x.1)) := by
  obtain ⟨hk, he⟩ := List.getElem?_eq_some_iff.1 hx
  rw [List.drop_eq_getElem_cons hk, he]
  rfl
set_option maxRecDepth 100000 in
set_option maxHeartbeats 16000000 in
theorem size_step (r : R) (d : Nat) (hd8 : d ≤ 8) (IH : ∀ d', d = d' + 1 → SzC r d') : SzC r d := by
  intro p hok pa sa pc sc w h hc hcm
  have F0 := ((Fr.start w).alloc r.cells 30).alloc (p.cells pa pc sa sc) 32
  obtain ⟨m1, m2⟩ := P.ok_lens hok
  have HR := Lib.hid (fun W (H : PRow W p pa sa) => results_c r p hok pa sa pc sc W H (by omega) (by omega) hc hcm)
  obtain ⟨dI, hdI⟩ : ∃ dI : Int, dI = (d : Int) := ⟨_, rfl⟩
  rw [← hdI]
  have HLN := Lib.hid (allP_len8 hok)
  by_cases hd : d = 0
  · have hd0 : (dI == 0) = true := by simp; omega
    have HE : Hid (sizeU r d p = 1) := by unfold Hid; rw [hd]; rfl
    clear hd hdI hok HR
    go_enter Try.func37, Try.ntmps37
    go_wp2
    go_ret
    rw [HE.out]
    exact ⟨rfl, F0.below⟩
  obtain ⟨d', rfl⟩ : ∃ d', d = d' + 1 := ⟨d - 1, by omega⟩
  have hd0 : (dI == 0) = false := by simp; omega
  have hsb : dI - 1 = (d' : Int) := by omega
  have hwb : IntKind.i64.wrap (d' : Int) = (d' : Int) := IntWalk.i64_in _ (by omega)
  have HIH := Lib.hid (IH d' rfl)
  have HV := Lib.hid (fun x (hx : x ∈ allP r p) => allP_valid hx)
  have HE : Hid (sizeU r (d' + 1) p = suGo (sizeU r d') (allP r p) 1) := rfl
  obtain ⟨y, hy⟩ : ∃ y, y = sizeU r (d' + 1) p := ⟨_, rfl⟩
  rw [← hy] at HE ⊢
  clear hd hdI hok IH hy
  go_enter Try.func37, Try.ntmps37
  go_wp2_with fail
  refine (HR.out _ (h.below F0.below (Nat.le_refl _))).mono ?_
  rintro e w2 ⟨l, ad, c, hl, rfl, ho, hb2⟩
  have F2 := F0.step hb2
  have HL := Lib.hid hl
  obtain ⟨g, hbox, hg0, hgd⟩ := mks_box ho hb2.size
  have hll : l.length ≤ 8 := by
    have h1 := HLN.out
    rw [← HL.out, List.length_map] at h1
    exact h1
  have HGD := Lib.hid hgd
  have hst0 : Hid (SuSt w w2 r d' l ad c g 0 1 y) := ⟨Nat.zero_le _, by rw [List.drop_zero, HL.out, HE.out], by omega, by omega, ho.le (by (simp; omega)), hbox, F2.at 1 rfl, F2.below⟩
  have HVX := Lib.hid (fun x (hx : x ∈ l) => HV.out x.1 (by rw [← HL.out]; exact List.mem_map_of_mem hx))
  clear hb2 hl ho F0 F2 hbox hg0 hgd HE HV HR
  go_wp2_with fail
  go_loopw [7, 17] (fun ss i wr => ∃ (k : Nat) (s : Int), i = .int .i64 k ∧ ss = .int .i64 s ∧ SuSt w wr r d' l ad c g k s y) (fun _ i _ => l.length - (intOf i).toNat)
  case atStart => exact ⟨0, 1, rfl, rfl, hst0.out⟩
  case round =>
    clear hst0
    obtain ⟨k, s, rfl, rfl, hst⟩ := hrel
    have HST := Lib.hid hst
    have hkl := hst.kl
    have hs0 := hst.s0
    have hs1 := hst.s1
    clear hst
    by_cases hk : k < l.length
    case neg =>
      have HT : Hid (y = s) := by
        have h1 := HST.out.go
        rw [List.drop_eq_nil_of_le (by omega)] at h1
        exact h1.symm
      go_wp2
      go_ret
      rw [HT.out]
      exact ⟨rfl, HST.out.below⟩
    obtain ⟨x, hx⟩ : ∃ x, l[k]? = some x := ⟨l[k], by simp [hk]⟩
    have HX := Lib.hid hx
    obtain ⟨q0, q1, q2, q3, q4, q5⟩ := box_cells HST.out.box hx
    obtain ⟨c0, c1, c2, c3, c4, c5, c6, c7, c8⟩ := R.boxc HST.out.rx
    obtain rfl := HGD.out (by omega)
    have hki : (k : Int) < (l.length : Int) := by omega
    have hgl : g < wr.heap.size := World.block_lt_of_cell? wr _ q0
    have hrl : w.heap.size < wr.heap.size := World.block_lt_of_cell? wr _ c0
    have hxm : x ∈ l := List.mem_of_getElem? hx
    have HI := Lib.hid (HST.out.own.items x hxm).1
    have HVN := Lib.hid (HVX.out x hxm)
    have hB5 : Below wr.heap.size wr (wr.alloc (.cells (x.1.cells x.2.pa x.2.pc x.2.sa x.2.sc) 52)) := below_alloc1 wr _
    have HB5 := Lib.hid hB5
    have HC := Lib.hid (HIH.out (nxt x.1) HVN.out x.2.pa x.2.sa x.2.pc x.2.sc _ (HI.out.row.below hB5 (Nat.le_refl _)) (own_caps HI.out.pits).1 (own_caps HI.out.pits).2)
    have hub := sizeU_bd r d' (nxt x.1)
    have HG := Lib.hid (suGo_at (sizeU r d') l k s x hx)
    obtain ⟨u, hu⟩ : ∃ u, u = sizeU r d' (nxt x.1) := ⟨_, rfl⟩
    rw [← hu] at hub HC HG
    have hwr : IntKind.i64.wrap (s + u) = s + u := IntWalk.i64_in _ (by omega)
    clear hx hu hxm hB5
    go_wp2_with fail
    refine HC.out.mono ?_
    rintro e w3 ⟨rfl, hb3⟩
    have HB6 := Lib.hid (HB5.out.trans (hb3.mono HB5.out.size))
    clear HC hb3 c0 c1 c2 c3 c4 c5 c6 c7 c8 q0 q1 q2 q3 q4 q5
    by_cases hsu : s + u > 3000
    · have HT : Hid (y = s + u) := by
        have h1 := HST.out.go
        rw [HG.out, if_pos hsu] at h1
        exact h1.symm
      go_wp2
      go_ret
      rw [HT.out]
      exact ⟨rfl, below_next HST.out.below HB6.out⟩
    · have HT : Hid (suGo (sizeU r d') ((l.drop (k + 1)).map Prod.fst) (s + u) = y) := by
        have h1 := HST.out.go
        rw [HG.out, if_neg hsu] at h1
        exact h1
      go_wp2
      go_roundw
      case rel => exact ⟨k + 1, s + u, by go_num, rfl, ⟨by omega, HT.out, by omega, by omega, HST.out.own.below HB6.out (Nat.le_refl _), HST.out.box.below HB6.out, HST.out.rx.below HB6.out, below_next HST.out.below HB6.out⟩⟩
      case measure => (simp [intOf]; omega)
theorem sizeUpTo_c (r : R) : ∀ (d : Nat), d ≤ 8 → SzC r d
  | 0, h => size_step r 0 h (fun d' e => absurd e (by omega))
  | d + 1, h => size_step r (d + 1) h (fun d' e => by
    obtain rfl : d = d' := by omega
    exact sizeUpTo_c r d (by omega))


/-! ### Srch2: the code of a search, and the searches for a size, a value and a value within bounds: the program's functions. Each contract holds for every argument, under the premises that it states. -/
theorem srchC_zero {r : R} {p : P} {d : Int} (h : srchC r p d = 0) : p.ok r = true ∧ ∃ D : Nat, d = (D : Int) ∧ D ≤ 8 ∧ sizeT r D p ≤ 3000 := by
  unfold srchC at h
  split at h
  · rename_i h1
    split at h
    · rename_i h2
      split at h
      · simp at h
      · rename_i h3
        exact ⟨h1, d.toNat, by omega, by omega, by omega⟩
    · simp at h
  · simp at h

set_option maxRecDepth 100000 in
set_option maxHeartbeats 8000000 in
theorem searchCode_c (r : R) (p : P) (d : Int) (pa sa : Option Addr) (pc sc : Nat) (w : World) (h : PRow w p pa sa) (m1 : p.pits.length ≤ 16777216) (m2 : p.stores.length ≤ 16777216) (hc : p.pits.length ≤ pc) (hcm : pc ≤ maxLen) :
    Calls Try.prog 25 #[r.val, p.val pa pc sa sc, .int .i64 d] w fun e w' => e = .returned (.int .i64 (srchC r p d)) ∧ Below w.heap.size w w' := by
  have F0 := ((Fr.start w).alloc r.cells 30).alloc (p.cells pa pc sa sc) 32
  have HV := fun W (H : PRow W p pa sa) => ValidPosition_c r p pa sa pc sc W H m1 m2
  have HBT := fun W => between_c d 0 8 W
  obtain ⟨y, hy⟩ : ∃ y, y = srchC r p d := ⟨_, rfl⟩
  rw [← hy]
  cases hok : p.ok r
  · simp only [hok] at HV
    have HV := Lib.hid HV
    have HE : Hid (y = 1) := by unfold Hid; rw [hy, srchC, hok]; rfl
    clear hok hy
    go_enter Try.func25, Try.ntmps25
    go_wp2_with fail
    refine (HV.out _ (h.below F0.below (Nat.le_refl _))).mono ?_
    rintro e w1 ⟨rfl, hb1⟩
    have F1 := F0.step hb1
    clear hb1 F0
    go_wp2
    go_ret
    rw [HE.out]
    exact ⟨rfl, F1.below⟩
  simp only [hok] at HV
  have HV := Lib.hid HV
  have HE : Hid (y = if 0 ≤ d ∧ d ≤ 8 then (if sizeT r d.toNat p > 3000 then 5 else 0) else 2) := by unfold Hid; rw [hy, srchC, hok]; rfl
  cases hb : inB d 0 8
  · have hn : ¬ (0 ≤ d ∧ d ≤ 8) := fun e => by rw [inB_iff.2 e] at hb; cases hb
    rw [hb] at HBT
    have HBT := Lib.hid HBT
    have HE2 : Hid (y = 2) := HE.out.trans (if_neg hn)
    clear hok hy hb hn
    go_enter Try.func25, Try.ntmps25
    go_wp2_with fail
    refine (HV.out _ (h.below F0.below (Nat.le_refl _))).mono ?_
    rintro e w1 ⟨rfl, hb1⟩
    have F1 := F0.step hb1
    clear hb1 F0
    go_wp2_with fail
    refine (HBT.out _).mono ?_
    rintro e w2 ⟨rfl, rfl⟩
    go_wp2
    go_ret
    rw [HE2.out]
    exact ⟨rfl, F1.below⟩
  obtain ⟨d0, d8⟩ := inB_iff.1 hb
  rw [hb] at HBT
  have HBT := Lib.hid HBT
  obtain ⟨D, rfl⟩ : ∃ D : Nat, d = (D : Int) := ⟨d.toNat, by omega⟩
  have HS := fun W (H : PRow W p pa sa) => sizeUpTo_c r D (by omega) p hok pa sa pc sc W H hc hcm
  have hub := sizeU_bd r D p
  obtain ⟨s1, s2⟩ := sizeU_eq r D p
  have hst : (sizeU r D p > 3000 ↔ sizeT r D p > 3000) := by
    constructor
    · intro h1
      rcases Nat.lt_or_ge 3000 (sizeT r D p) with h2 | h2
      · exact h2
      · have := s1 h2; omega
    · intro h1; exact s2 h1
  obtain ⟨u, hu⟩ : ∃ u, u = sizeU r D p := ⟨_, rfl⟩
  rw [← hu] at HS hub hst
  have HS := Lib.hid HS
  have HE2 : Hid (y = if u > 3000 then 5 else 0) := by
    unfold Hid
    rw [HE.out, if_pos ⟨d0, d8⟩, Int.toNat_natCast]
    by_cases h1 : u > 3000
    · rw [if_pos h1, if_pos (hst.1 h1)]
    · rw [if_neg h1, if_neg (fun h2 => h1 (hst.2 h2))]
  obtain ⟨hub0, hub1⟩ := hub
  clear hok hy hb s1 s2 hst hu HE
  go_enter Try.func25, Try.ntmps25
  go_wp2_with fail
  refine (HV.out _ (h.below F0.below (Nat.le_refl _))).mono ?_
  rintro e w1 ⟨rfl, hb1⟩
  have F1 := F0.step hb1
  obtain ⟨c0, c1, c2, c3, c4, c5, c6, c7, c8⟩ := R.boxc (F1.at 1 rfl)
  obtain ⟨e0, e1, e2⟩ := P.boxc (F1.at 0 rfl)
  have zA : w.heap.size < w1.heap.size := F1.le 1 rfl
  have zB : w.heap.size + 1 < w1.heap.size := by have := F1.le 0 rfl; simp at this; omega
  simp only [World.size_alloc] at e0 e1 e2
  clear hb1 F0
  go_wp2_with fail
  refine (HBT.out _).mono ?_
  rintro e w2 ⟨rfl, rfl⟩
  go_wp2_with fail
  refine (HS.out _ (h.below F1.below (Nat.le_refl _))).mono ?_
  rintro e w3 ⟨rfl, hb3⟩
  have F3 := F1.step hb3
  clear hb3 F1 c0 c1 c2 c3 c4 c5 c6 c7 c8 e0 e1 e2
  by_cases hu3 : u > 3000
  · have HE3 : Hid (y = 5) := HE2.out.trans (if_pos hu3)
    go_wp2
    go_ret
    rw [HE3.out]
    exact ⟨rfl, F3.below⟩
  · have HE3 : Hid (y = 0) := HE2.out.trans (if_neg hu3)
    go_wp2
    go_ret
    rw [HE3.out]
    exact ⟨rfl, F3.below⟩


end Go.Proofs.Ytolfanonjmfgcaa
