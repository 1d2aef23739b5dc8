/- Srch1: the value and the size of a search: the program's functions. Each contract holds for every argument, under the premises that it states. -/
import Derived.Test.YtbjdfgfebepacaaLine
namespace Go.Proofs.Ytbjdfgfebepacaa
set_option linter.unusedSimpArgs false
set_option linter.unusedVariables false
set_option linter.unnecessarySimpa false
open Go.RowKit Go.ChangeShapes Go.WideShapes Go.ChangeAt Go.Joins

set_option maxHeartbeats 4000000 in
theorem moveValue_c (r : R) (x : Mk) (A : MA) (v u : Int) (w : World) (hu : u = moveV x v) (h0 : 0 ≤ x.gain) (h1 : x.gain ≤ 2000) (h2 : -1000000 ≤ v) (h3 : v ≤ 1000000) :
    Calls Try.prog 187 #[r.val, x.val A.pa A.pc A.sa A.sc, .int .i64 v] w fun e w' => e = .returned (.int .i64 u) ∧ Below w.heap.size w w' := by
  have F0 := ((Fr.start w).alloc r.cells 25).alloc (x.cells A.pa A.pc A.sa A.sc) 178
  have e1 : IntKind.i64.wrap (x.gain + v) = x.gain + v := IntWalk.i64_in _ (by omega)
  have e2 : IntKind.i64.wrap (x.gain - v) = x.gain - v := IntWalk.i64_in _ (by omega)
  have HU := Lib.hid hu
  clear hu
  cases hA : x.again
  · have HA := Lib.hid hA
    go_enter Try.func187, Try.ntmps187
    go_wp2
    go_ret
    refine ⟨?_, below_alloc2 _ _ _⟩
    have h1 := HU.out
    unfold moveV at h1
    rw [HA.out] at h1
    exact ret_int h1.symm
  · have HA := Lib.hid hA
    go_enter Try.func187, Try.ntmps187
    go_wp2
    go_ret
    refine ⟨?_, below_alloc2 _ _ _⟩
    have h1 := HU.out
    unfold moveV at h1
    rw [HA.out] at h1
    exact ret_int h1.symm

set_option maxRecDepth 100000 in
set_option maxHeartbeats 8000000 in
theorem endValue_c (r : R) (p : P) (hok : p.ok r = true) (pa sa : Option Addr) (pc sc : Nat) (w : World) (h : PRow w p pa sa) (hc : p.pits.length ≤ pc) (hcm : pc ≤ maxLen) :
    Calls Try.prog 186 #[r.val, p.val pa pc sa sc] w fun e w' => e = .returned (.int .i64 (endP r p)) ∧ Below w.heap.size w w' := by
  have F0 := ((Fr.start w).alloc r.cells 25).alloc (p.cells pa pc sa sc) 67
  have hs0 := sideP_bd hok p.player
  have hs1 := sideP_bd hok (1 - p.player)
  obtain ⟨hbd, ⟨pn, hpn, hpn1⟩, t, hB, ht0, ht1⟩ := P.ok_parts hok
  have hal : allIn p.pits = true := hB.allIn (by omega)
  have H1 : ∀ W, Ints W pa p.pits → Calls Try.prog 198 #[r.val, .slice pa p.pits.length pc, .int .i64 p.player] W fun e w' => e = .returned (.int .i64 (sideP r p.pits p.player)) ∧ Below W.heap.size W w' := fun W H => by
    have := side_c r hbd pn hpn1 p.pits hB.lp hal pa pc W H hc hcm
    rw [← hpn] at this
    exact this
  have H2 : ∀ W, Ints W pa p.pits → Calls Try.prog 198 #[r.val, .slice pa p.pits.length pc, .int .i64 (1 - p.player)] W fun e w' => e = .returned (.int .i64 (sideP r p.pits (1 - p.player))) ∧ Below W.heap.size W w' := fun W H => by
    have := side_c r hbd (1 - pn) (by omega) p.pits hB.lp hal pa pc W H hc hcm
    rw [show ((1 - pn : Nat) : Int) = 1 - p.player by omega] at this
    exact this
  have hwr : IntKind.i64.wrap (1 - p.player) = 1 - p.player := IntWalk.i64_in _ (by omega)
  have HE : Hid (endP r p = sideP r p.pits p.player - sideP r p.pits (1 - p.player)) := rfl
  obtain ⟨sA, hsA⟩ : ∃ s, s = sideP r p.pits p.player := ⟨_, rfl⟩
  obtain ⟨sB, hsB⟩ : ∃ s, s = sideP r p.pits (1 - p.player) := ⟨_, rfl⟩
  rw [← hsA] at HE H1 hs0
  rw [← hsB] at HE H2 hs1
  have hws : IntKind.i64.wrap (sA - sB) = sA - sB := IntWalk.i64_in _ (by omega)
  have H1 := Lib.hid H1
  have H2 := Lib.hid H2
  have HB0 := F0.below
  clear hsA hsB hok hbd hpn hB hal ht0 ht1
  go_enter Try.func186, Try.ntmps186
  go_wp2_with fail
  refine heldH (S := fun w' => ∀ b o, b < w.heap.size + 1 + 1 → w'.cell? ⟨b, o, none⟩ = ((w.alloc (.cells r.cells 25)).alloc (.cells (p.cells pa pc sa sc) 67)).cell? ⟨b, o, none⟩) (n := 15) (listed := #[false, false, false, false, false, false, false, false, false, false, false, false, false, false, false]) (by kernel_rfl) (by rfl) (by rfl) ?_ (fun hHeld => ?_)
  (focus ((try dsimp only); (first | done | ((first | exact hcB | exact hcA | (intro b o h; rfl)); done))))
  (refine takeH (i := 0) (v := ?_) (by decide +kernel) (by decide +kernel) (by kernel_rfl) (by rfl) (by exact fun _ _ _ h => h) (by rfl) ?_ (by assumption) ?_); rotate_left; (focus (intro w hSw; (try dsimp only at hSw); go_simp; (try with_reducible rfl); done)); (try simp only [Act.put, List.setIfInBounds_toArray, List.set_cons_zero, List.set_cons_succ])
  (refine takeH (i := 1) (v := ?_) (by decide +kernel) (by decide +kernel) (by kernel_rfl) (by rfl) (by exact fun _ _ _ h => h) (by rfl) ?_ (by assumption) ?_); rotate_left; (focus (intro w hSw; (try dsimp only at hSw); go_simp; (try with_reducible rfl); done)); (try simp only [Act.put, List.setIfInBounds_toArray, List.set_cons_zero, List.set_cons_succ])
  (refine takeH (i := 2) (v := ?_) (by decide +kernel) (by decide +kernel) (by kernel_rfl) (by rfl) (by exact fun _ _ _ h => h) (by rfl) ?_ (by assumption) ?_); rotate_left; (focus (intro w hSw; (try dsimp only at hSw); go_simp; (try with_reducible rfl); done)); (try simp only [Act.put, List.setIfInBounds_toArray, List.set_cons_zero, List.set_cons_succ])
  (refine takeH (i := 3) (v := ?_) (by decide +kernel) (by decide +kernel) (by kernel_rfl) (by rfl) (by exact fun _ _ _ h => h) (by rfl) ?_ (by assumption) ?_); rotate_left; (focus (intro w hSw; (try dsimp only at hSw); go_simp; (try with_reducible rfl); done)); (try simp only [Act.put, List.setIfInBounds_toArray, List.set_cons_zero, List.set_cons_succ])
  (refine takeH (i := 4) (v := ?_) (by decide +kernel) (by decide +kernel) (by kernel_rfl) (by rfl) (by exact fun _ _ _ h => h) (by rfl) ?_ (by assumption) ?_); rotate_left; (focus (intro w hSw; (try dsimp only at hSw); go_simp; (try with_reducible rfl); done)); (try simp only [Act.put, List.setIfInBounds_toArray, List.set_cons_zero, List.set_cons_succ])
  (refine takeH (i := 6) (v := ?_) (by decide +kernel) (by decide +kernel) (by kernel_rfl) (by rfl) (by exact fun _ _ _ h => h) (by rfl) ?_ (by assumption) ?_); rotate_left; (focus (intro w hSw; (try dsimp only at hSw); go_simp; (try with_reducible rfl); done)); (try simp only [Act.put, List.setIfInBounds_toArray, List.set_cons_zero, List.set_cons_succ])
  (refine takeH (i := 7) (v := ?_) (by decide +kernel) (by decide +kernel) (by kernel_rfl) (by rfl) (by exact fun _ _ _ h => h) (by rfl) ?_ (by assumption) ?_); rotate_left; (focus (intro w hSw; (try dsimp only at hSw); go_simp; (try with_reducible rfl); done)); (try simp only [Act.put, List.setIfInBounds_toArray, List.set_cons_zero, List.set_cons_succ])
  (refine takeH (i := 8) (v := ?_) (by decide +kernel) (by decide +kernel) (by kernel_rfl) (by rfl) (by exact fun _ _ _ h => h) (by rfl) ?_ (by assumption) ?_); rotate_left; (focus (intro w hSw; (try dsimp only at hSw); go_simp; (try with_reducible rfl); done)); (try simp only [Act.put, List.setIfInBounds_toArray, List.set_cons_zero, List.set_cons_succ])
  (refine takeH (i := 9) (v := ?_) (by decide +kernel) (by decide +kernel) (by kernel_rfl) (by rfl) (by exact fun _ _ _ h => h) (by rfl) ?_ (by assumption) ?_); rotate_left; (focus (intro w hSw; (try dsimp only at hSw); go_simp; (try with_reducible rfl); done)); (try simp only [Act.put, List.setIfInBounds_toArray, List.set_cons_zero, List.set_cons_succ])
  (refine takeH (i := 10) (v := ?_) (by decide +kernel) (by decide +kernel) (by kernel_rfl) (by rfl) (by exact fun _ _ _ h => h) (by rfl) ?_ (by assumption) ?_); rotate_left; (focus (intro w hSw; (try dsimp only at hSw); go_simp; (try with_reducible rfl); done)); (try simp only [Act.put, List.setIfInBounds_toArray, List.set_cons_zero, List.set_cons_succ])
  (refine takeH (i := 11) (v := ?_) (by decide +kernel) (by decide +kernel) (by kernel_rfl) (by rfl) (by exact fun _ _ _ h => h) (by rfl) ?_ (by assumption) ?_); rotate_left; (focus (intro w hSw; (try dsimp only at hSw); go_simp; (try with_reducible rfl); done)); (try simp only [Act.put, List.setIfInBounds_toArray, List.set_cons_zero, List.set_cons_succ])
  refine nextH (i := 5) (by decide +kernel) (by rfl) (by rfl) (fun K hK => ?_)
  go_simp
  (first | (go_at_call 198; (refine (H2.out _ (h.pits.below BA (Nat.le_refl _))).mono ?_); (rintro e wB ⟨rfl, hbB⟩); (have BB : Below w.heap.size w wB := below_next BA hbB); (have hcB : ∀ b o, b < w.heap.size + 1 + 1 → wB.cell? ⟨b, o, none⟩ = ((w.alloc (.cells r.cells 25)).alloc (.cells (p.cells pa pc sa sc) 67)).cell? ⟨b, o, none⟩ := fun b o h => ((bcell hbB).1 b o (Nat.lt_of_lt_of_le h (Nat.le_trans (by simp) hbA.size))).trans (hcA b o h))) | (go_at_call 198; (refine (H1.out _ (h.pits.below HB0.drew (Nat.le_refl _))).mono ?_); (rintro e wA ⟨rfl, hbA⟩); (have BA : Below w.heap.size w wA := below_next HB0.drew hbA); (have hcA : ∀ b o, b < w.heap.size + 1 + 1 → wA.cell? ⟨b, o, none⟩ = ((w.alloc (.cells r.cells 25)).alloc (.cells (p.cells pa pc sa sc) 67)).cell? ⟨b, o, none⟩ := fun b o h => (bcell hbA).1 b o (by simpa using h))))
  refine hK.out _ _ ?_ (fun hHeld' => ?_)
  (focus ((try dsimp only); (first | done | ((first | exact hcB | exact hcA | (intro b o h; rfl)); done))))
  clear hK K hHeld
  have hHeld := hHeld'
  clear hHeld'
  (try simp only [Act.put, List.setIfInBounds_toArray, List.set_cons_zero, List.set_cons_succ])
  refine nextH (i := 12) (by decide +kernel) (by rfl) (by rfl) (fun K hK => ?_)
  go_simp
  (first | (go_at_call 198; (refine (H2.out _ (h.pits.below BA (Nat.le_refl _))).mono ?_); (rintro e wB ⟨rfl, hbB⟩); (have BB : Below w.heap.size w wB := below_next BA hbB); (have hcB : ∀ b o, b < w.heap.size + 1 + 1 → wB.cell? ⟨b, o, none⟩ = ((w.alloc (.cells r.cells 25)).alloc (.cells (p.cells pa pc sa sc) 67)).cell? ⟨b, o, none⟩ := fun b o h => ((bcell hbB).1 b o (Nat.lt_of_lt_of_le h (Nat.le_trans (by simp) hbA.size))).trans (hcA b o h))) | (go_at_call 198; (refine (H1.out _ (h.pits.below HB0.drew (Nat.le_refl _))).mono ?_); (rintro e wA ⟨rfl, hbA⟩); (have BA : Below w.heap.size w wA := below_next HB0.drew hbA); (have hcA : ∀ b o, b < w.heap.size + 1 + 1 → wA.cell? ⟨b, o, none⟩ = ((w.alloc (.cells r.cells 25)).alloc (.cells (p.cells pa pc sa sc) 67)).cell? ⟨b, o, none⟩ := fun b o h => (bcell hbA).1 b o (by simpa using h))))
  refine hK.out _ _ ?_ (fun hHeld' => ?_)
  (focus ((try dsimp only); (first | done | ((first | exact hcB | exact hcA | (intro b o h; rfl)); done))))
  clear hK K hHeld
  have hHeld := hHeld'
  clear hHeld'
  (try simp only [Act.put, List.setIfInBounds_toArray, List.set_cons_zero, List.set_cons_succ])
  (refine takeH (i := 13) (v := ?_) (by decide +kernel) (by decide +kernel) (by kernel_rfl) (by rfl) (by exact fun _ _ _ h => h) (by rfl) ?_ (by assumption) ?_); rotate_left; (focus (intro w hSw; (try dsimp only at hSw); go_simp; (try with_reducible rfl); done)); (try simp only [Act.put, List.setIfInBounds_toArray, List.set_cons_zero, List.set_cons_succ])
  (refine takeH (i := 14) (v := ?_) (by decide +kernel) (by decide +kernel) (by kernel_rfl) (by rfl) (by exact fun _ _ _ h => h) (by rfl) ?_ (by assumption) ?_); rotate_left; (focus (intro w hSw; (try dsimp only at hSw); go_simp; (try with_reducible rfl); done)); (try simp only [Act.put, List.setIfInBounds_toArray, List.set_cons_zero, List.set_cons_succ])
  refine wpAnyH_done (by decide +kernel) ?_ _
  go_wp2
  go_ret
  rw [HE.out]
  exact ⟨rfl, BB⟩

def SzC (r : R) (d : Nat) : Prop := ∀ (p : P) (_ : p.ok r = true) (pa sa : Option Addr) (pc sc : Nat) (w : World) (_ : PRow w p pa sa) (_ : p.pits.length ≤ pc) (_ : pc ≤ maxLen),
    Calls Try.prog 148 #[r.val, p.val pa pc sa sc, .int .i64 (d : Int)] w fun e w' => e = .returned (.int .i64 (sizeU r d p)) ∧ Below w.heap.size w w'
structure SuSt (w wr : World) (r : R) (d : Nat) (l : List (Mk × MA)) (ad : Option Addr) (c g k : Nat) (s tgt : Int) : Prop where
  kl : k ≤ l.length
  go : suGo (sizeU r d) ((l.drop k).map Prod.fst) s = tgt
  s0 : 1 ≤ s
  s1 : s ≤ 3000
  own : MksOwn wr w.heap.size ad c l
  box : BoxP g (mcells l) wr
  rx : BoxP w.heap.size r.cells.toList wr
  below : Below w.heap.size w wr
theorem suGo_at (f : P → Int) (l : List (Mk × MA)) (k : Nat) (s : Int) (x : Mk × MA) (hx : l[k]? = some x) : suGo f ((l.drop k).map Prod.fst) s = if s + f (nxt x.1) > 3000 then s + f (nxt x.1) else suGo f ((l.drop (k + 1)).map Prod.fst) (s + f (nxt x.1)) := by
  obtain ⟨hk, he⟩ := List.getElem?_eq_some_iff.1 hx
  rw [List.drop_eq_getElem_cons hk, he]
  rfl
set_option maxRecDepth 100000 in
set_option maxHeartbeats 16000000 in
theorem size_step (r : R) (d : Nat) (hd8 : d ≤ 8) (IH : ∀ d', d = d' + 1 → SzC r d') : SzC r d := by
  intro p hok pa sa pc sc w h hc hcm
  have F0 := ((Fr.start w).alloc r.cells 25).alloc (p.cells pa pc sa sc) 67
  obtain ⟨m1, m2⟩ := P.ok_lens hok
  have HR := Lib.hid (fun W (H : PRow W p pa sa) => results_c r p hok pa sa pc sc W H (by omega) (by omega) hc hcm)
  obtain ⟨dI, hdI⟩ : ∃ dI : Int, dI = (d : Int) := ⟨_, rfl⟩
  rw [← hdI]
  have HLN := Lib.hid (allP_len8 hok)
  by_cases hd : d = 0
  · have hd0 : (dI == 0) = true := by simp; omega
    have HE : Hid (sizeU r d p = 1) := by unfold Hid; rw [hd]; rfl
    clear hd hdI hok HR
    go_enter Try.func148, Try.ntmps148
    go_wp2
    go_ret
    rw [HE.out]
    exact ⟨rfl, F0.below⟩
  obtain ⟨d', rfl⟩ : ∃ d', d = d' + 1 := ⟨d - 1, by omega⟩
  have hd0 : (dI == 0) = false := by simp; omega
  have hsb : dI - 1 = (d' : Int) := by omega
  have hwb : IntKind.i64.wrap (d' : Int) = (d' : Int) := IntWalk.i64_in _ (by omega)
  have HIH := Lib.hid (IH d' rfl)
  have HV := Lib.hid (fun x (hx : x ∈ allP r p) => allP_valid hx)
  have HE : Hid (sizeU r (d' + 1) p = suGo (sizeU r d') (allP r p) 1) := rfl
  obtain ⟨y, hy⟩ : ∃ y, y = sizeU r (d' + 1) p := ⟨_, rfl⟩
  rw [← hy] at HE ⊢
  clear hd hdI hok IH hy
  go_enter Try.func148, Try.ntmps148
  go_wp2_with fail
  refine (HR.out _ (h.below F0.below (Nat.le_refl _))).mono ?_
  rintro e w2 ⟨l, ad, c, hl, rfl, ho, hb2⟩
  have F2 := F0.step hb2
  have HL := Lib.hid hl
  obtain ⟨g, hbox, hg0, hgd⟩ := mks_box ho hb2.size
  have hll : l.length ≤ 8 := by
    have h1 := HLN.out
    rw [← HL.out, List.length_map] at h1
    exact h1
  have HGD := Lib.hid hgd
  have hst0 : Hid (SuSt w w2 r d' l ad c g 0 1 y) := ⟨Nat.zero_le _, by rw [List.drop_zero, HL.out, HE.out], by omega, by omega, ho.le (by (simp; omega)), hbox, F2.at 1 rfl, F2.below⟩
  have HVX := Lib.hid (fun x (hx : x ∈ l) => HV.out x.1 (by rw [← HL.out]; exact List.mem_map_of_mem hx))
  clear hb2 hl ho F0 F2 hbox hg0 hgd HE HV HR
  go_wp2_with fail
  go_loopw [7, 17] (fun ss i wr => ∃ (k : Nat) (s : Int), i = .int .i64 k ∧ ss = .int .i64 s ∧ SuSt w wr r d' l ad c g k s y) (fun _ i _ => l.length - (intOf i).toNat)
  case atStart => exact ⟨0, 1, rfl, rfl, hst0.out⟩
  case round =>
    clear hst0
    obtain ⟨k, s, rfl, rfl, hst⟩ := hrel
    have HST := Lib.hid hst
    have hkl := hst.kl
    have hs0 := hst.s0
    have hs1 := hst.s1
    clear hst
    by_cases hk : k < l.length
    case neg =>
      have HT : Hid (y = s) := by
        have h1 := HST.out.go
        rw [List.drop_eq_nil_of_le (by omega)] at h1
        exact h1.symm
      go_wp2
      go_ret
      rw [HT.out]
      exact ⟨rfl, HST.out.below⟩
    obtain ⟨x, hx⟩ : ∃ x, l[k]? = some x := ⟨l[k], by simp [hk]⟩
    have HX := Lib.hid hx
    obtain ⟨q0, q1, q2, q3, q4, q5⟩ := box_cells HST.out.box hx
    obtain ⟨c0, c1, c2, c3, c4, c5, c6, c7, c8⟩ := R.boxc HST.out.rx
    obtain rfl := HGD.out (by omega)
    have hki : (k : Int) < (l.length : Int) := by omega
    have hgl : g < wr.heap.size := World.block_lt_of_cell? wr _ q0
    have hrl : w.heap.size < wr.heap.size := World.block_lt_of_cell? wr _ c0
    have hxm : x ∈ l := List.mem_of_getElem? hx
    have HI := Lib.hid (HST.out.own.items x hxm).1
    have HVN := Lib.hid (HVX.out x hxm)
    have hB5 : Below wr.heap.size wr (wr.alloc (.cells (x.1.cells x.2.pa x.2.pc x.2.sa x.2.sc) 178)) := below_alloc1 wr _
    have HB5 := Lib.hid hB5
    have HC := Lib.hid (HIH.out (nxt x.1) HVN.out x.2.pa x.2.sa x.2.pc x.2.sc _ (HI.out.row.below hB5 (Nat.le_refl _)) (own_caps HI.out.pits).1 (own_caps HI.out.pits).2)
    have hub := sizeU_bd r d' (nxt x.1)
    have HG := Lib.hid (suGo_at (sizeU r d') l k s x hx)
    obtain ⟨u, hu⟩ : ∃ u, u = sizeU r d' (nxt x.1) := ⟨_, rfl⟩
    rw [← hu] at hub HC HG
    have hwr : IntKind.i64.wrap (s + u) = s + u := IntWalk.i64_in _ (by omega)
    clear hx hu hxm hB5
    go_wp2_with fail
    refine HC.out.mono ?_
    rintro e w3 ⟨rfl, hb3⟩
    have HB6 := Lib.hid (HB5.out.trans (hb3.mono HB5.out.size))
    clear HC hb3 c0 c1 c2 c3 c4 c5 c6 c7 c8 q0 q1 q2 q3 q4 q5
    by_cases hsu : s + u > 3000
    · have HT : Hid (y = s + u) := by
        have h1 := HST.out.go
        rw [HG.out, if_pos hsu] at h1
        exact h1.symm
      go_wp2
      go_ret
      rw [HT.out]
      exact ⟨rfl, below_next HST.out.below HB6.out⟩
    · have HT : Hid (suGo (sizeU r d') ((l.drop (k + 1)).map Prod.fst) (s + u) = y) := by
        have h1 := HST.out.go
        rw [HG.out, if_neg hsu] at h1
        exact h1
      go_wp2
      go_roundw
      case rel => exact ⟨k + 1, s + u, by go_num, rfl, ⟨by omega, HT.out, by omega, by omega, HST.out.own.below HB6.out (Nat.le_refl _), HST.out.box.below HB6.out, HST.out.rx.below HB6.out, below_next HST.out.below HB6.out⟩⟩
      case measure => (simp [intOf]; omega)
theorem sizeUpTo_c (r : R) : ∀ (d : Nat), d ≤ 8 → SzC r d
  | 0, h => size_step r 0 h (fun d' e => absurd e (by omega))
  | d + 1, h => size_step r (d + 1) h (fun d' e => by
    obtain rfl : d = d' := by omega
    exact sizeUpTo_c r d (by omega))

def VlC (r : R) (d : Nat) : Prop := ∀ (p : P) (_ : p.ok r = true) (pa sa : Option Addr) (pc sc : Nat) (w : World) (_ : PRow w p pa sa) (_ : p.pits.length ≤ pc) (_ : pc ≤ maxLen),
    Calls Try.prog 147 #[r.val, p.val pa pc sa sc, .int .i64 (d : Int)] w fun e w' => e = .returned (.int .i64 (valueP r d p)) ∧ Below w.heap.size w w'
structure VlSt (w wr : World) (r : R) (d : Nat) (l : List (Mk × MA)) (ad : Option Addr) (c g k : Nat) (b tgt : Int) : Prop where
  kl : k ≤ l.length
  go : bGo (valueP r d) ((l.drop k).map Prod.fst) k b = tgt
  own : MksOwn wr w.heap.size ad c l
  box : BoxP g (mcells l) wr
  rx : BoxP w.heap.size r.cells.toList wr
  below : Below w.heap.size w wr
theorem bGo_at (f : P → Int) (l : List (Mk × MA)) (k : Nat) (b : Int) (x : Mk × MA) (hx : l[k]? = some x) : bGo f ((l.drop k).map Prod.fst) k b = bGo f ((l.drop (k + 1)).map Prod.fst) (k + 1) (if k = 0 ∨ moveV x.1 (f (nxt x.1)) > b then moveV x.1 (f (nxt x.1)) else b) := by
  obtain ⟨hk, he⟩ := List.getElem?_eq_some_iff.1 hx
  rw [List.drop_eq_getElem_cons hk, he]
  rfl
theorem valueP_nil {r : R} {p : P} (h : allP r p = []) (d : Nat) : valueP r d p = endP r p := by
  cases d <;> simp [valueP, h]
set_option maxRecDepth 100000 in
set_option maxHeartbeats 16000000 in
theorem value_step (r : R) (d : Nat) (hd8 : d ≤ 8) (IH : ∀ d', d = d' + 1 → VlC r d') : VlC r d := by
  intro p hok pa sa pc sc w h hc hcm
  have F0 := ((Fr.start w).alloc r.cells 25).alloc (p.cells pa pc sa sc) 67
  obtain ⟨m1, m2⟩ := P.ok_lens hok
  have HR := Lib.hid (fun W (H : PRow W p pa sa) => results_c r p hok pa sa pc sc W H (by omega) (by omega) hc hcm)
  have HEV := Lib.hid (fun W (H : PRow W p pa sa) => endValue_c r p hok pa sa pc sc W H hc hcm)
  obtain ⟨dI, hdI⟩ : ∃ dI : Int, dI = (d : Int) := ⟨_, rfl⟩
  rw [← hdI]
  have HLN := Lib.hid (allP_len8 hok)
  obtain ⟨y, hy⟩ : ∃ y, y = valueP r d p := ⟨_, rfl⟩
  rw [← hy]
  have HDI := Lib.hid hdI
  have HV := Lib.hid (fun x (hx : x ∈ allP r p) => allP_valid hx)
  have HPS := Lib.hid (fun x (hx : x ∈ allP r p) => allP_pos hx)
  have HY := Lib.hid hy
  clear hdI hok hy
  go_enter Try.func147, Try.ntmps147
  go_wp2_with fail
  refine (HR.out _ (h.below F0.below (Nat.le_refl _))).mono ?_
  rintro e w2 ⟨l, ad, c, hl, rfl, ho, hb2⟩
  have F2 := F0.step hb2
  have HL := Lib.hid hl
  have hll : l.length ≤ 8 := by
    have h1 := HLN.out
    rw [← HL.out, List.length_map] at h1
    exact h1
  by_cases hln : l.length = 0
  · have HEM : Hid (y = endP r p) := by
      unfold Hid
      rw [HY.out]
      refine valueP_nil ?_ d
      rw [← HL.out, List.eq_nil_of_length_eq_zero hln]
      rfl
    have hlz : ((l.length : Int) == 0) = true := by simpa using hln
    obtain ⟨c0, c1, c2, c3, c4, c5, c6, c7, c8⟩ := R.boxc (F2.at 1 rfl)
    obtain ⟨d0, d1, d2⟩ := P.boxc (F2.at 0 rfl)
    simp only [World.size_alloc] at d0 d1 d2
    clear hb2 hl ho hln
    go_wp2_with fail
    refine (HEV.out _ (h.below F2.below (Nat.le_refl _))).mono ?_
    rintro e w3 ⟨rfl, hb3⟩
    have F3 := F2.step hb3
    clear hb3
    go_wp2
    go_ret
    rw [HEM.out]
    exact ⟨rfl, F3.below⟩
  have hlz : ((l.length : Int) == 0) = false := by simpa using hln
  have HNE : Hid (¬ allP r p = []) := by
    intro e
    rw [← HL.out] at e
    have := congrArg List.length e
    simp at this
    exact hln (by rw [this]; rfl)
  by_cases hd : d = 0
  · have hd0 : (dI == 0) = true := by have := HDI.out; simp; omega
    have HE : Hid (y = 0) := by unfold Hid; rw [HY.out, hd, valueP, if_neg HNE.out]
    clear hd hl ho hb2 hln
    go_wp2
    go_ret
    rw [HE.out]
    exact ⟨rfl, F2.below⟩
  obtain ⟨d', rfl⟩ : ∃ d', d = d' + 1 := ⟨d - 1, by omega⟩
  have hdI := HDI.out
  have hd0 : (dI == 0) = false := by simp; omega
  have hsb : dI - 1 = (d' : Int) := by omega
  have hwb : IntKind.i64.wrap (d' : Int) = (d' : Int) := IntWalk.i64_in _ (by omega)
  have HIH := Lib.hid (IH d' rfl)
  obtain ⟨g, hbox, hg0, hgd⟩ := mks_box ho hb2.size
  have HGD := Lib.hid hgd
  have hst0 : Hid (VlSt w w2 r d' l ad c g 0 0 y) := ⟨Nat.zero_le _, by rw [List.drop_zero, HL.out, HY.out, valueP, if_neg HNE.out], ho.le (by (simp; omega)), hbox, F2.at 1 rfl, F2.below⟩
  have HVX := Lib.hid (fun x (hx : x ∈ l) => HV.out x.1 (by rw [← HL.out]; exact List.mem_map_of_mem hx))
  have HPX := Lib.hid (fun x (hx : x ∈ l) => HPS.out x.1 (by rw [← HL.out]; exact List.mem_map_of_mem hx))
  clear hb2 hl ho F0 F2 hbox hg0 hgd HV HR HEV HPS hdI hd hln IH
  go_wp2_with fail
  go_loopw [8, 27] (fun ss i wr => ∃ (k : Nat) (b : Int), i = .int .i64 k ∧ ss = .int .i64 b ∧ VlSt w wr r d' l ad c g k b y) (fun _ i _ => l.length - (intOf i).toNat)
  case atStart => exact ⟨0, 0, rfl, rfl, hst0.out⟩
  case round =>
    clear hst0
    obtain ⟨k, b, rfl, rfl, hst⟩ := hrel
    have HST := Lib.hid hst
    have hkl := hst.kl
    clear hst
    by_cases hk : k < l.length
    case neg =>
      have HT : Hid (y = b) := by
        have h1 := HST.out.go
        rw [List.drop_eq_nil_of_le (by omega)] at h1
        exact h1.symm
      go_wp2
      go_ret
      rw [HT.out]
      exact ⟨rfl, HST.out.below⟩
    obtain ⟨x, hx⟩ : ∃ x, l[k]? = some x := ⟨l[k], by simp [hk]⟩
    have HX := Lib.hid hx
    obtain ⟨q0, q1, q2, q3, q4, q5⟩ := box_cells HST.out.box hx
    obtain ⟨c0, c1, c2, c3, c4, c5, c6, c7, c8⟩ := R.boxc HST.out.rx
    obtain rfl := HGD.out (by omega)
    have hki : (k : Int) < (l.length : Int) := by omega
    have hgl : g < wr.heap.size := World.block_lt_of_cell? wr _ q0
    have hrl : w.heap.size < wr.heap.size := World.block_lt_of_cell? wr _ c0
    have hxm : x ∈ l := List.mem_of_getElem? hx
    have HI := Lib.hid (HST.out.own.items x hxm).1
    have HVN := Lib.hid (HVX.out x hxm)
    obtain ⟨hp0, hp1, hp2⟩ := HPX.out x hxm
    have hB5 : Below wr.heap.size wr (wr.alloc (.cells (x.1.cells x.2.pa x.2.pc x.2.sa x.2.sc) 178)) := below_alloc1 wr _
    have HB5 := Lib.hid hB5
    have HC := Lib.hid (HIH.out (nxt x.1) HVN.out x.2.pa x.2.sa x.2.pc x.2.sc _ (HI.out.row.below hB5.drew (Nat.le_refl _)) (own_caps HI.out.pits).1 (own_caps HI.out.pits).2)
    have hub := valueP_bd r d' (nxt x.1) HVN.out
    have HG := Lib.hid (bGo_at (valueP r d') l k b x hx)
    obtain ⟨v, hv⟩ : ∃ v, v = valueP r d' (nxt x.1) := ⟨_, rfl⟩
    rw [← hv] at hub HC HG
    obtain ⟨u, hu⟩ : ∃ u, u = moveV x.1 v := ⟨_, rfl⟩
    rw [← hu] at HG
    have HMV := Lib.hid (fun W => moveValue_c r x.1 x.2 v u W hu hp0 hp2 (by omega) (by omega))
    clear hx hu hv hxm hB5 hub
    go_wp2_with fail
    refine heldH (S := fun w' => ∀ b o, b < wr.heap.size + 1 → w'.cell? ⟨b, o, none⟩ = (wr.alloc (.cells (x.1.cells x.2.pa x.2.pc x.2.sa x.2.sc) 178)).cell? ⟨b, o, none⟩) (n := 10) (listed := #[false, false, false, false, false, false, false, false, false, false]) (by kernel_rfl) (by rfl) (by rfl) ?_ (fun hHeld => ?_)
    (focus ((try dsimp only); (first | done | ((first | exact hcB | exact hcA | (intro b o h; rfl)); done))))
    (first | ((refine takeH (i := 0) (v := ?_) (by decide +kernel) (by decide +kernel) (by kernel_rfl) (by rfl) (by exact fun _ _ _ h => h) (by rfl) ?_ (by assumption) ?_); rotate_left; (focus (intro w hSw; (try dsimp only at hSw); go_simp; (try with_reducible rfl); done)); (try simp only [Act.put, List.setIfInBounds_toArray, List.set_cons_zero, List.set_cons_succ])) | ((refine skipH (i := 0) (by decide +kernel) (by decide +kernel) (by kernel_rfl) (by rfl) (by exact fun _ _ _ h => h) (by rfl) (by assumption) ?_); (try simp only [Act.put, List.setIfInBounds_toArray, List.set_cons_zero, List.set_cons_succ])))
    (first | ((refine takeH (i := 1) (v := ?_) (by decide +kernel) (by decide +kernel) (by kernel_rfl) (by rfl) (by exact fun _ _ _ h => h) (by rfl) ?_ (by assumption) ?_); rotate_left; (focus (intro w hSw; (try dsimp only at hSw); go_simp; (try with_reducible rfl); done)); (try simp only [Act.put, List.setIfInBounds_toArray, List.set_cons_zero, List.set_cons_succ])) | ((refine skipH (i := 1) (by decide +kernel) (by decide +kernel) (by kernel_rfl) (by rfl) (by exact fun _ _ _ h => h) (by rfl) (by assumption) ?_); (try simp only [Act.put, List.setIfInBounds_toArray, List.set_cons_zero, List.set_cons_succ])))
    (first | ((refine takeH (i := 2) (v := ?_) (by decide +kernel) (by decide +kernel) (by kernel_rfl) (by rfl) (by exact fun _ _ _ h => h) (by rfl) ?_ (by assumption) ?_); rotate_left; (focus (intro w hSw; (try dsimp only at hSw); go_simp; (try with_reducible rfl); done)); (try simp only [Act.put, List.setIfInBounds_toArray, List.set_cons_zero, List.set_cons_succ])) | ((refine skipH (i := 2) (by decide +kernel) (by decide +kernel) (by kernel_rfl) (by rfl) (by exact fun _ _ _ h => h) (by rfl) (by assumption) ?_); (try simp only [Act.put, List.setIfInBounds_toArray, List.set_cons_zero, List.set_cons_succ])))
    (first | ((refine takeH (i := 3) (v := ?_) (by decide +kernel) (by decide +kernel) (by kernel_rfl) (by rfl) (by exact fun _ _ _ h => h) (by rfl) ?_ (by assumption) ?_); rotate_left; (focus (intro w hSw; (try dsimp only at hSw); go_simp; (try with_reducible rfl); done)); (try simp only [Act.put, List.setIfInBounds_toArray, List.set_cons_zero, List.set_cons_succ])) | ((refine skipH (i := 3) (by decide +kernel) (by decide +kernel) (by kernel_rfl) (by rfl) (by exact fun _ _ _ h => h) (by rfl) (by assumption) ?_); (try simp only [Act.put, List.setIfInBounds_toArray, List.set_cons_zero, List.set_cons_succ])))
    (first | ((refine takeH (i := 4) (v := ?_) (by decide +kernel) (by decide +kernel) (by kernel_rfl) (by rfl) (by exact fun _ _ _ h => h) (by rfl) ?_ (by assumption) ?_); rotate_left; (focus (intro w hSw; (try dsimp only at hSw); go_simp; (try with_reducible rfl); done)); (try simp only [Act.put, List.setIfInBounds_toArray, List.set_cons_zero, List.set_cons_succ])) | ((refine skipH (i := 4) (by decide +kernel) (by decide +kernel) (by kernel_rfl) (by rfl) (by exact fun _ _ _ h => h) (by rfl) (by assumption) ?_); (try simp only [Act.put, List.setIfInBounds_toArray, List.set_cons_zero, List.set_cons_succ])))
    (first | ((refine takeH (i := 5) (v := ?_) (by decide +kernel) (by decide +kernel) (by kernel_rfl) (by rfl) (by exact fun _ _ _ h => h) (by rfl) ?_ (by assumption) ?_); rotate_left; (focus (intro w hSw; (try dsimp only at hSw); go_simp; (try with_reducible rfl); done)); (try simp only [Act.put, List.setIfInBounds_toArray, List.set_cons_zero, List.set_cons_succ])) | ((refine skipH (i := 5) (by decide +kernel) (by decide +kernel) (by kernel_rfl) (by rfl) (by exact fun _ _ _ h => h) (by rfl) (by assumption) ?_); (try simp only [Act.put, List.setIfInBounds_toArray, List.set_cons_zero, List.set_cons_succ])))
    (first | ((refine takeH (i := 6) (v := ?_) (by decide +kernel) (by decide +kernel) (by kernel_rfl) (by rfl) (by exact fun _ _ _ h => h) (by rfl) ?_ (by assumption) ?_); rotate_left; (focus (intro w hSw; (try dsimp only at hSw); go_simp; (try with_reducible rfl); done)); (try simp only [Act.put, List.setIfInBounds_toArray, List.set_cons_zero, List.set_cons_succ])) | ((refine skipH (i := 6) (by decide +kernel) (by decide +kernel) (by kernel_rfl) (by rfl) (by exact fun _ _ _ h => h) (by rfl) (by assumption) ?_); (try simp only [Act.put, List.setIfInBounds_toArray, List.set_cons_zero, List.set_cons_succ])))
    refine nextH (i := 7) (by decide +kernel) (by rfl) (by rfl) (fun K hK => ?_)
    go_simp
    (first | (go_at_call 147; (refine HC.out.mono ?_); (rintro e wA ⟨rfl, hbA⟩); (have hcA : ∀ b o, b < wr.heap.size + 1 → wA.cell? ⟨b, o, none⟩ = (wr.alloc (.cells (x.1.cells x.2.pa x.2.pc x.2.sa x.2.sc) 178)).cell? ⟨b, o, none⟩ := fun b o h => (bcell hbA).1 b o (by simpa using h))) | (go_at_call 187; (refine (HMV.out _).mono ?_); (rintro e wB ⟨rfl, hbB⟩); (have hcB : ∀ b o, b < wr.heap.size + 1 → wB.cell? ⟨b, o, none⟩ = (wr.alloc (.cells (x.1.cells x.2.pa x.2.pc x.2.sa x.2.sc) 178)).cell? ⟨b, o, none⟩ := fun b o h => ((bcell hbB).1 b o (Nat.lt_of_lt_of_le h (Nat.le_trans (by simp) hbA.size))).trans (hcA b o h))))
    refine hK.out _ _ ?_ (fun hHeld' => ?_)
    (focus ((try dsimp only); (first | done | ((first | exact hcB | exact hcA | (intro b o h; rfl)); done))))
    clear hK K hHeld
    have hHeld := hHeld'
    clear hHeld'
    (try simp only [Act.put, List.setIfInBounds_toArray, List.set_cons_zero, List.set_cons_succ])
    refine nextH (i := 8) (by decide +kernel) (by rfl) (by rfl) (fun K hK => ?_)
    go_simp
    (first | (go_at_call 147; (refine HC.out.mono ?_); (rintro e wA ⟨rfl, hbA⟩); (have hcA : ∀ b o, b < wr.heap.size + 1 → wA.cell? ⟨b, o, none⟩ = (wr.alloc (.cells (x.1.cells x.2.pa x.2.pc x.2.sa x.2.sc) 178)).cell? ⟨b, o, none⟩ := fun b o h => (bcell hbA).1 b o (by simpa using h))) | (go_at_call 187; (refine (HMV.out _).mono ?_); (rintro e wB ⟨rfl, hbB⟩); (have hcB : ∀ b o, b < wr.heap.size + 1 → wB.cell? ⟨b, o, none⟩ = (wr.alloc (.cells (x.1.cells x.2.pa x.2.pc x.2.sa x.2.sc) 178)).cell? ⟨b, o, none⟩ := fun b o h => ((bcell hbB).1 b o (Nat.lt_of_lt_of_le h (Nat.le_trans (by simp) hbA.size))).trans (hcA b o h))))
    refine hK.out _ _ ?_ (fun hHeld' => ?_)
    (focus ((try dsimp only); (first | done | ((first | exact hcB | exact hcA | (intro b o h; rfl)); done))))
    clear hK K hHeld
    have hHeld := hHeld'
    clear hHeld'
    (try simp only [Act.put, List.setIfInBounds_toArray, List.set_cons_zero, List.set_cons_succ])
    (first | ((refine takeH (i := 9) (v := ?_) (by decide +kernel) (by decide +kernel) (by kernel_rfl) (by rfl) (by exact fun _ _ _ h => h) (by rfl) ?_ (by assumption) ?_); rotate_left; (focus (intro w hSw; (try dsimp only at hSw); go_simp; (try with_reducible rfl); done)); (try simp only [Act.put, List.setIfInBounds_toArray, List.set_cons_zero, List.set_cons_succ])) | ((refine skipH (i := 9) (by decide +kernel) (by decide +kernel) (by kernel_rfl) (by rfl) (by exact fun _ _ _ h => h) (by rfl) (by assumption) ?_); (try simp only [Act.put, List.setIfInBounds_toArray, List.set_cons_zero, List.set_cons_succ])))
    refine wpAnyH_done (by decide +kernel) ?_ _
    have HB6 : Hid (Below wr.heap.size wr wB) := by
      have h1 := HB5.out.drew.trans (hbA.mono HB5.out.drew.size)
      exact h1.trans (hbB.mono h1.size)
    clear HC HMV hcA hcB hbA hbB c0 c1 c2 c3 c4 c5 c6 c7 c8 q0 q1 q2 q3 q4 q5
    by_cases hk0 : k = 0
    · have hk0' : ((k : Int) == 0) = true := by simp; omega
      have HT : Hid (bGo (valueP r d') ((l.drop (k + 1)).map Prod.fst) (k + 1) u = y) := by
        have h1 := HST.out.go
        rw [HG.out, if_pos (.inl hk0)] at h1
        exact h1
      clear hk0
      go_wp2
      go_roundw
      case rel => exact ⟨k + 1, u, by go_num, rfl, ⟨by omega, HT.out, HST.out.own.below HB6.out (Nat.le_refl _), HST.out.box.below HB6.out, HST.out.rx.below HB6.out, below_next HST.out.below HB6.out⟩⟩
      case measure => (simp [intOf]; omega)
    have hk0' : ((k : Int) == 0) = false := by simp; omega
    by_cases hgt : u > b
    · have HT : Hid (bGo (valueP r d') ((l.drop (k + 1)).map Prod.fst) (k + 1) u = y) := by
        have h1 := HST.out.go
        rw [HG.out, if_pos (.inr hgt)] at h1
        exact h1
      clear hk0
      go_wp2
      go_roundw
      case rel => exact ⟨k + 1, u, by go_num, rfl, ⟨by omega, HT.out, HST.out.own.below HB6.out (Nat.le_refl _), HST.out.box.below HB6.out, HST.out.rx.below HB6.out, below_next HST.out.below HB6.out⟩⟩
      case measure => (simp [intOf]; omega)
    · have HT : Hid (bGo (valueP r d') ((l.drop (k + 1)).map Prod.fst) (k + 1) b = y) := by
        have h1 := HST.out.go
        rw [HG.out, if_neg (by omega)] at h1
        exact h1
      clear hk0
      go_wp2
      go_roundw
      case rel => exact ⟨k + 1, b, by go_num, rfl, ⟨by omega, HT.out, HST.out.own.below HB6.out (Nat.le_refl _), HST.out.box.below HB6.out, HST.out.rx.below HB6.out, below_next HST.out.below HB6.out⟩⟩
      case measure => (simp [intOf]; omega)
theorem value_c (r : R) : ∀ (d : Nat), d ≤ 8 → VlC r d
  | 0, h => value_step r 0 h (fun d' e => absurd e (by omega))
  | d + 1, h => value_step r (d + 1) h (fun d' e => by
    obtain rfl : d = d' := by omega
    exact value_c r d (by omega))


/-! ### Srch2: the code of a search, and the searches for a size, a value and a value within bounds: the program's functions. Each contract holds for every argument, under the premises that it states. -/
theorem srchC_zero {r : R} {p : P} {d : Int} (h : srchC r p d = 0) : p.ok r = true ∧ ∃ D : Nat, d = (D : Int) ∧ D ≤ 8 ∧ sizeT r D p ≤ 3000 := by
  unfold srchC at h
  split at h
  · rename_i h1
    split at h
    · rename_i h2
      split at h
      · simp at h
      · rename_i h3
        exact ⟨h1, d.toNat, by omega, by omega, by omega⟩
    · simp at h
  · simp at h

set_option maxRecDepth 100000 in
set_option maxHeartbeats 8000000 in
theorem searchCode_c (r : R) (p : P) (d : Int) (pa sa : Option Addr) (pc sc : Nat) (w : World) (h : PRow w p pa sa) (m1 : p.pits.length ≤ 16777216) (m2 : p.stores.length ≤ 16777216) (hc : p.pits.length ≤ pc) (hcm : pc ≤ maxLen) :
    Calls Try.prog 146 #[r.val, p.val pa pc sa sc, .int .i64 d] w fun e w' => e = .returned (.int .i64 (srchC r p d)) ∧ Below w.heap.size w w' := by
  have F0 := ((Fr.start w).alloc r.cells 25).alloc (p.cells pa pc sa sc) 67
  have HV := fun W (H : PRow W p pa sa) => ValidPosition_c r p pa sa pc sc W H m1 m2
  have HBT := fun W => between_c d 0 8 W
  obtain ⟨y, hy⟩ : ∃ y, y = srchC r p d := ⟨_, rfl⟩
  rw [← hy]
  cases hok : p.ok r
  · simp only [hok] at HV
    have HV := Lib.hid HV
    have HE : Hid (y = 1) := by unfold Hid; rw [hy, srchC, hok]; rfl
    clear hok hy
    go_enter Try.func146, Try.ntmps146
    go_wp2_with fail
    refine (HV.out _ (h.below F0.below (Nat.le_refl _))).mono ?_
    rintro e w1 ⟨rfl, hb1⟩
    have F1 := F0.step hb1
    clear hb1 F0
    go_wp2
    go_ret
    rw [HE.out]
    exact ⟨rfl, F1.below⟩
  simp only [hok] at HV
  have HV := Lib.hid HV
  have HE : Hid (y = if 0 ≤ d ∧ d ≤ 8 then (if sizeT r d.toNat p > 3000 then 5 else 0) else 2) := by unfold Hid; rw [hy, srchC, hok]; rfl
  cases hb : inB d 0 8
  · have hn : ¬ (0 ≤ d ∧ d ≤ 8) := fun e => by rw [inB_iff.2 e] at hb; cases hb
    rw [hb] at HBT
    have HBT := Lib.hid HBT
    have HE2 : Hid (y = 2) := HE.out.trans (if_neg hn)
    clear hok hy hb hn
    go_enter Try.func146, Try.ntmps146
    go_wp2_with fail
    refine (HV.out _ (h.below F0.below (Nat.le_refl _))).mono ?_
    rintro e w1 ⟨rfl, hb1⟩
    have F1 := F0.step hb1
    clear hb1 F0
    go_wp2_with fail
    refine (HBT.out _).mono ?_
    rintro e w2 ⟨rfl, rfl⟩
    go_wp2
    go_ret
    rw [HE2.out]
    exact ⟨rfl, F1.below⟩
  obtain ⟨d0, d8⟩ := inB_iff.1 hb
  rw [hb] at HBT
  have HBT := Lib.hid HBT
  obtain ⟨D, rfl⟩ : ∃ D : Nat, d = (D : Int) := ⟨d.toNat, by omega⟩
  have HS := fun W (H : PRow W p pa sa) => sizeUpTo_c r D (by omega) p hok pa sa pc sc W H hc hcm
  have hub := sizeU_bd r D p
  obtain ⟨s1, s2⟩ := sizeU_eq r D p
  have hst : (sizeU r D p > 3000 ↔ sizeT r D p > 3000) := by
    constructor
    · intro h1
      rcases Nat.lt_or_ge 3000 (sizeT r D p) with h2 | h2
      · exact h2
      · have := s1 h2; omega
    · intro h1; exact s2 h1
  obtain ⟨u, hu⟩ : ∃ u, u = sizeU r D p := ⟨_, rfl⟩
  rw [← hu] at HS hub hst
  have HS := Lib.hid HS
  have HE2 : Hid (y = if u > 3000 then 5 else 0) := by
    unfold Hid
    rw [HE.out, if_pos ⟨d0, d8⟩, Int.toNat_natCast]
    by_cases h1 : u > 3000
    · rw [if_pos h1, if_pos (hst.1 h1)]
    · rw [if_neg h1, if_neg (fun h2 => h1 (hst.2 h2))]
  obtain ⟨hub0, hub1⟩ := hub
  clear hok hy hb s1 s2 hst hu HE
  go_enter Try.func146, Try.ntmps146
  go_wp2_with fail
  refine (HV.out _ (h.below F0.below (Nat.le_refl _))).mono ?_
  rintro e w1 ⟨rfl, hb1⟩
  have F1 := F0.step hb1
  obtain ⟨c0, c1, c2, c3, c4, c5, c6, c7, c8⟩ := R.boxc (F1.at 1 rfl)
  obtain ⟨e0, e1, e2⟩ := P.boxc (F1.at 0 rfl)
  have zA : w.heap.size < w1.heap.size := F1.le 1 rfl
  have zB : w.heap.size + 1 < w1.heap.size := by have := F1.le 0 rfl; simp at this; omega
  simp only [World.size_alloc] at e0 e1 e2
  clear hb1 F0
  go_wp2_with fail
  refine (HBT.out _).mono ?_
  rintro e w2 ⟨rfl, rfl⟩
  go_wp2_with fail
  refine (HS.out _ (h.below F1.below (Nat.le_refl _))).mono ?_
  rintro e w3 ⟨rfl, hb3⟩
  have F3 := F1.step hb3
  clear hb3 F1 c0 c1 c2 c3 c4 c5 c6 c7 c8 e0 e1 e2
  by_cases hu3 : u > 3000
  · have HE3 : Hid (y = 5) := HE2.out.trans (if_pos hu3)
    go_wp2
    go_ret
    rw [HE3.out]
    exact ⟨rfl, F3.below⟩
  · have HE3 : Hid (y = 0) := HE2.out.trans (if_neg hu3)
    go_wp2
    go_ret
    rw [HE3.out]
    exact ⟨rfl, F3.below⟩

set_option maxRecDepth 100000 in
theorem szOf_c (r : R) (p : P) (d : Int) (pa sa : Option Addr) (pc sc : Nat) (hz : srchC r p d = 0) (hc : p.pits.length ≤ pc) (hcm : pc ≤ maxLen) (W : World) (H : PRow W p pa sa) :
    Calls Try.prog 148 #[r.val, p.val pa pc sa sc, .int .i64 d] W fun e w' => e = .returned (.int .i64 (ssizeP r p d).1) ∧ Below W.heap.size W w' := by
  obtain ⟨hok, D, rfl, hD, hs⟩ := srchC_zero hz
  have h1 := sizeUpTo_c r D hD p hok pa sa pc sc W H hc hcm
  unfold ssizeP
  rw [if_pos hz, Int.toNat_natCast]
  first
  | exact h1
  | (rw [(sizeU_eq r D p).1 hs] at h1; exact h1)
set_option maxRecDepth 100000 in
set_option maxHeartbeats 8000000 in
theorem iSearchSize_c (r : R) (p : P) (d : Int) (pa sa : Option Addr) (pc sc : Nat) (w : World) (h : PRow w p pa sa) (m1 : p.pits.length ≤ 16777216) (m2 : p.stores.length ≤ 16777216) (hc : p.pits.length ≤ pc) (hcm : pc ≤ maxLen) :
    Calls Try.prog 64 #[r.val, p.val pa pc sa sc, .int .i64 d] w fun e w' => e = .returned (.tuple #[.int .i64 (ssizeP r p d).1, .int .i64 (ssizeP r p d).2]) ∧ Below w.heap.size w w' := by
  have F0 := ((Fr.start w).alloc r.cells 25).alloc (p.cells pa pc sa sc) 67
  have HC := fun W (H : PRow W p pa sa) => searchCode_c r p d pa sa pc sc W H m1 m2 hc hcm
  obtain ⟨c, hcd⟩ : ∃ c, c = srchC r p d := ⟨_, rfl⟩
  rw [← hcd] at HC
  have HC := Lib.hid HC
  obtain ⟨y, hy⟩ : ∃ y, y = ssizeP r p d := ⟨_, rfl⟩
  rw [← hy]
  by_cases hz : c = 0
  · have HS := fun W H => szOf_c r p d pa sa pc sc (by rw [← hcd]; exact hz) hc hcm W H
    have HY2 : Hid (y.2 = 0) := by unfold Hid; rw [hy, ssizeP, ← hcd, if_pos hz]
    rw [← hy] at HS
    have HS := Lib.hid HS
    have hz' : (c != 0) = false := by simpa using hz
    clear hcd hy hz
    go_enter Try.func64, Try.ntmps64
    go_wp2_with fail
    refine (HC.out _ (h.below F0.below (Nat.le_refl _))).mono ?_
    rintro e w1 ⟨rfl, hb1⟩
    have F1 := F0.step hb1
    obtain ⟨c0, c1, c2, c3, c4, c5, c6, c7, c8⟩ := R.boxc (F1.at 1 rfl)
    obtain ⟨e0, e1, e2⟩ := P.boxc (F1.at 0 rfl)
    have zA : w.heap.size < w1.heap.size := F1.le 1 rfl
    have zB : w.heap.size + 1 < w1.heap.size := by have := F1.le 0 rfl; simp at this; omega
    simp only [World.size_alloc] at e0 e1 e2
    clear hb1 F0
    go_wp2_with fail
    refine (HS.out _ (h.below F1.below (Nat.le_refl _))).mono ?_
    rintro e w3 ⟨rfl, hb3⟩
    have F3 := F1.step hb3
    clear hb3 F1 c0 c1 c2 c3 c4 c5 c6 c7 c8 e0 e1 e2
    go_wp2
    go_ret2
    rw [HY2.out]
    exact ⟨rfl, F3.below⟩
  · have HE : Hid (y = (0, c)) := by unfold Hid; rw [hy, ssizeP, ← hcd, if_neg hz]
    have hz' : (c != 0) = true := by simpa using hz
    clear hcd hy hz
    go_enter Try.func64, Try.ntmps64
    go_wp2_with fail
    refine (HC.out _ (h.below F0.below (Nat.le_refl _))).mono ?_
    rintro e w1 ⟨rfl, hb1⟩
    have F1 := F0.step hb1
    clear hb1 F0
    go_wp2
    go_ret2
    rw [HE.out]
    exact ⟨rfl, F1.below⟩
set_option maxRecDepth 100000 in
theorem vlOf_c (r : R) (p : P) (d : Int) (pa sa : Option Addr) (pc sc : Nat) (hz : srchC r p d = 0) (hc : p.pits.length ≤ pc) (hcm : pc ≤ maxLen) (W : World) (H : PRow W p pa sa) :
    Calls Try.prog 147 #[r.val, p.val pa pc sa sc, .int .i64 d] W fun e w' => e = .returned (.int .i64 (svalP r p d).1) ∧ Below W.heap.size W w' := by
  obtain ⟨hok, D, rfl, hD, hs⟩ := srchC_zero hz
  have h1 := value_c r D hD p hok pa sa pc sc W H hc hcm
  unfold svalP
  rw [if_pos hz, Int.toNat_natCast]
  first
  | exact h1
  | (rw [(sizeU_eq r D p).1 hs] at h1; exact h1)
set_option maxRecDepth 100000 in
set_option maxHeartbeats 8000000 in
theorem iSearchValue_c (r : R) (p : P) (d : Int) (pa sa : Option Addr) (pc sc : Nat) (w : World) (h : PRow w p pa sa) (m1 : p.pits.length ≤ 16777216) (m2 : p.stores.length ≤ 16777216) (hc : p.pits.length ≤ pc) (hcm : pc ≤ maxLen) :
    Calls Try.prog 66 #[r.val, p.val pa pc sa sc, .int .i64 d] w fun e w' => e = .returned (.tuple #[.int .i64 (svalP r p d).1, .int .i64 (svalP r p d).2]) ∧ Below w.heap.size w w' := by
  have F0 := ((Fr.start w).alloc r.cells 25).alloc (p.cells pa pc sa sc) 67
  have HC := fun W (H : PRow W p pa sa) => searchCode_c r p d pa sa pc sc W H m1 m2 hc hcm
  obtain ⟨c, hcd⟩ : ∃ c, c = srchC r p d := ⟨_, rfl⟩
  rw [← hcd] at HC
  have HC := Lib.hid HC
  obtain ⟨y, hy⟩ : ∃ y, y = svalP r p d := ⟨_, rfl⟩
  rw [← hy]
  by_cases hz : c = 0
  · have HS := fun W H => vlOf_c r p d pa sa pc sc (by rw [← hcd]; exact hz) hc hcm W H
    have HY2 : Hid (y.2 = 0) := by unfold Hid; rw [hy, svalP, ← hcd, if_pos hz]
    rw [← hy] at HS
    have HS := Lib.hid HS
    have hz' : (c != 0) = false := by simpa using hz
    clear hcd hy hz
    go_enter Try.func66, Try.ntmps66
    go_wp2_with fail
    refine (HC.out _ (h.below F0.below (Nat.le_refl _))).mono ?_
    rintro e w1 ⟨rfl, hb1⟩
    have F1 := F0.step hb1
    obtain ⟨c0, c1, c2, c3, c4, c5, c6, c7, c8⟩ := R.boxc (F1.at 1 rfl)
    obtain ⟨e0, e1, e2⟩ := P.boxc (F1.at 0 rfl)
    have zA : w.heap.size < w1.heap.size := F1.le 1 rfl
    have zB : w.heap.size + 1 < w1.heap.size := by have := F1.le 0 rfl; simp at this; omega
    simp only [World.size_alloc] at e0 e1 e2
    clear hb1 F0
    go_wp2_with fail
    refine (HS.out _ (h.below F1.below (Nat.le_refl _))).mono ?_
    rintro e w3 ⟨rfl, hb3⟩
    have F3 := F1.step hb3
    clear hb3 F1 c0 c1 c2 c3 c4 c5 c6 c7 c8 e0 e1 e2
    go_wp2
    go_ret2
    rw [HY2.out]
    exact ⟨rfl, F3.below⟩
  · have HE : Hid (y = (0, c)) := by unfold Hid; rw [hy, svalP, ← hcd, if_neg hz]
    have hz' : (c != 0) = true := by simpa using hz
    clear hcd hy hz
    go_enter Try.func66, Try.ntmps66
    go_wp2_with fail
    refine (HC.out _ (h.below F0.below (Nat.le_refl _))).mono ?_
    rintro e w1 ⟨rfl, hb1⟩
    have F1 := F0.step hb1
    clear hb1 F0
    go_wp2
    go_ret2
    rw [HE.out]
    exact ⟨rfl, F1.below⟩


end Go.Proofs.Ytbjdfgfebepacaa
