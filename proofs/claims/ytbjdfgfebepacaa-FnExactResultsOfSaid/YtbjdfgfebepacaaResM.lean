/- ResM: lists of results: both sides' ResultsOf, and the law's own functions that compare, mark and read them. Each contract holds for every argument, under the premises that it states. -/
import Derived.Test.YtbjdfgfebepacaaRes
import Derived.Test.YtbjdfgfebepacaaRowed
import Derived.Test.YtbjdfgfebepacaaPos2
import Derived.Test.YtbjdfgfebepacaaHeld
namespace Go.Proofs.Ytbjdfgfebepacaa
set_option linter.unusedSimpArgs false
set_option linter.unusedVariables false
set_option linter.unnecessarySimpa false
open Go.RowKit Go.ChangeShapes Go.WideShapes Go.ChangeAt Go.Joins

/-! ### in memory -/
@[reducible] def pieceI (a : Option Addr) (c : Nat) (xs : List Int) : Pc := ⟨2, 1, .slice a xs.length c, xs.length, xs.map (Value.int .i64)⟩
def resRL : RL (Mk × MA) where
  e := 178
  n := 6
  f := fun x => (x.1.cells x.2.pa x.2.pc x.2.sa x.2.sc).toList
  m := 2
  g := fun x => [pieceI x.2.pa x.2.pc x.1.pits, pieceI x.2.sa x.2.sc x.1.stores]
  hf := fun x => rfl
  hg := fun x => rfl
theorem mcells_flat : ∀ l : List (Mk × MA), mcells l = flat resRL.f l
  | [] => rfl
  | x :: l => by rw [mcells, flat, mcells_flat l]; rfl
theorem flat_pairwise {α β : Type} {g : α → List β} {R : β → β → Prop} : ∀ {l : List α}, (∀ x ∈ l, (g x).Pairwise R) → l.Pairwise (fun x y => ∀ a ∈ g x, ∀ b ∈ g y, R a b) → (flat g l).Pairwise R
  | [], _, _ => List.Pairwise.nil
  | x :: l, h1, h2 => by
    obtain ⟨h3, h4⟩ := List.pairwise_cons.1 h2
    refine List.pairwise_append.2 ⟨h1 x (List.mem_cons_self ..), flat_pairwise (fun y hy => h1 y (List.mem_cons_of_mem _ hy)) h4, fun a ha b hb => ?_⟩
    have : ∃ y ∈ l, b ∈ g y := by
      clear h1 h2 h3 h4
      induction l with
      | nil => cases hb
      | cons z l ih =>
        rw [flat, List.mem_append] at hb
        rcases hb with hb | hb
        · exact ⟨z, List.mem_cons_self .., hb⟩
        · obtain ⟨y, hy, hby⟩ := ih hb
          exact ⟨y, List.mem_cons_of_mem _ hy, hby⟩
    obtain ⟨y, hy, hby⟩ := this
    exact h3 y hy a ha b hby
theorem flat_of_mem {α β : Type} {g : α → List β} {l : List α} {b : β} (hb : b ∈ flat g l) : ∃ y ∈ l, b ∈ g y := by
  induction l with
  | nil => cases hb
  | cons z l ih =>
    rw [flat, List.mem_append] at hb
    rcases hb with hb | hb
    · exact ⟨z, List.mem_cons_self .., hb⟩
    · obtain ⟨y, hy, hby⟩ := ih hb
      exact ⟨y, List.mem_cons_of_mem _ hy, hby⟩
theorem mks_pcs {w : World} {base c : Nat} {ad : Option Addr} {l : List (Mk × MA)} (h : MksOwn w base ad c l) : Pcs w base (resRL.pcs ad c l) := by
  refine ⟨fun q hq => ?_, ?_⟩
  · rcases List.mem_cons.1 hq with rfl | hq
    · have := h.row
      rw [mcells_flat] at this
      exact this
    · obtain ⟨y, hy, hqy⟩ := flat_of_mem hq
      obtain ⟨i1, _, _⟩ := h.items y hy
      rcases List.mem_cons.1 hqy with rfl | hqy
      · exact i1.pits
      · obtain rfl := List.mem_singleton.1 hqy
        exact i1.stores
  · refine List.pairwise_cons.2 ⟨fun q hq => ?_, flat_pairwise (fun x hx => ?_) (h.sep.imp fun {x y} hxy => ?_)⟩
    · obtain ⟨y, hy, hqy⟩ := flat_of_mem hq
      obtain ⟨_, i2, i3⟩ := h.items y hy
      rcases List.mem_cons.1 hqy with rfl | hqy
      · exact fun k h1 h2 => i2 k h2 h1
      · obtain rfl := List.mem_singleton.1 hqy
        exact fun k h1 h2 => i3 k h2 h1
    · obtain ⟨i1, _, _⟩ := h.items x hx
      refine List.pairwise_cons.2 ⟨fun q hq => ?_, List.pairwise_singleton _ _⟩
      obtain rfl := List.mem_singleton.1 hq
      exact fun k h1 h2 => i1.apart.elim (fun e => by have := e.symm.trans h1; cases this) (fun e => e (h1.trans h2.symm))
    · intro a ha b hb k h1 h2
      refine hxy k ?_ ?_
      · rcases List.mem_cons.1 ha with rfl | ha
        · exact .inl h1
        · obtain rfl := List.mem_singleton.1 ha
          exact .inr h1
      · rcases List.mem_cons.1 hb with rfl | hb
        · exact .inl h2
        · obtain rfl := List.mem_singleton.1 hb
          exact .inr h2

/-! ### what both sides return -/
def resP (r : R) (p : P) : List Mk × Int := if p.ok r = true then (allP r p, 0) else ([], 1)
theorem resP_ok {r : R} {p : P} (h : p.ok r = true) : resP r p = (allP r p, 0) := by rw [resP, if_pos h]
theorem resP_bad {r : R} {p : P} (h : p.ok r = false) : resP r p = ([], 1) := by rw [resP, if_neg (by simp [h])]
def MksRes2 (w : World) (y : List Mk × Int) (e : Ending) (w' : World) : Prop := ∃ (l : List (Mk × MA)) (ad : Option Addr) (c : Nat), l.map Prod.fst = y.1 ∧ e = .returned (.tuple #[.slice ad l.length c, .int .i64 y.2]) ∧ MksOwn w' w.heap.size ad c l ∧ Below w.heap.size w w'
theorem mks_nil (w : World) (base : Nat) : MksOwn w base none 0 [] := ⟨World.ownsRow_nil _ _ _ _, fun x hx => (by cases hx), List.Pairwise.nil⟩
set_option maxHeartbeats 2000000 in
theorem iResultsAll_c (r : R) (p : P) (pa sa : Option Addr) (pc sc : Nat) (w : World) (h : PRow w p pa sa) (m1 : p.pits.length ≤ 16777216) (m2 : p.stores.length ≤ 16777216) (hc : p.pits.length ≤ pc) (hcm : pc ≤ maxLen) :
    Calls Try.prog 78 #[r.val, p.val pa pc sa sc] w (MksRes2 w (resP r p)) := by
  have F0 := ((Fr.start w).alloc r.cells 25).alloc (p.cells pa pc sa sc) 67
  have HV := ValidPosition_c r p pa sa pc sc _ (h.below F0.below (Nat.le_refl _)) m1 m2
  have HH := Lib.hid h
  clear h
  cases hok : p.ok r
  · rw [hok] at HV
    have HV := Lib.hid HV
    have HP := Lib.hid (resP_bad hok)
    clear hok
    go_enter Try.func78, Try.ntmps78
    go_wp2_with fail
    refine HV.out.mono ?_
    rintro e w1 ⟨rfl, hb1⟩
    have F1 := F0.step hb1
    clear hb1 HV F0
    go_wp2
    go_ret2
    refine ⟨[], none, 0, ?_, ?_, mks_nil _ _, F1.below⟩ <;> rw [HP.out] <;> rfl
  · rw [hok] at HV
    have HV := Lib.hid HV
    have HO := Lib.hid hok
    have HP := Lib.hid (resP_ok hok)
    clear hok
    go_enter Try.func78, Try.ntmps78
    go_wp2_with fail
    refine HV.out.mono ?_
    rintro e w1 ⟨rfl, hb1⟩
    have F1 := F0.step hb1
    obtain ⟨c0, c1, c2, c3, c4, c5, c6, c7, c8⟩ := R.boxc (F1.at 1 rfl)
    obtain ⟨d0, d1, d2⟩ := P.boxc (F1.at 0 rfl)
    simp only [World.size_alloc] at d0 d1 d2
    clear hb1 HV F0
    go_wp2_with fail
    refine (results_c r p HO.out pa sa pc sc _ (HH.out.below F1.below (Nat.le_refl _)) m1 m2 hc hcm).mono ?_
    rintro e w2 ⟨l, ad, c, hl, rfl, ho, hb2⟩
    have HX := Lib.hid (⟨hl, ho.le F1.below.size, below_next F1.below hb2⟩ : _ ∧ _ ∧ _)
    clear hl ho hb2 F1 c0 c1 c2 c3 c4 c5 c6 c7 c8 d0 d1 d2
    go_wp2
    go_ret2
    exact ⟨l, ad, c, HX.out.1.trans (by rw [HP.out]), by rw [HP.out]; rfl, HX.out.2.1, HX.out.2.2⟩
set_option maxHeartbeats 2000000 in
theorem sResultsAll_c (r : R) (p : P) (pa sa : Option Addr) (pc sc : Nat) (w : World) (h : PRow w p pa sa) (m1 : p.pits.length ≤ 16777216) (m2 : p.stores.length ≤ 16777216) :
    Calls Try.prog 75 #[r.val, p.val pa pc sa sc] w (MksRes2 w (resP r p)) := by
  have F0 := ((Fr.start w).alloc r.cells 25).alloc (p.cells pa pc sa sc) 67
  have hr := R.boxc (F0.at 1 rfl)
  obtain ⟨d0, d1, d2⟩ := P.boxc (F0.at 0 rfl)
  simp only [World.size_alloc] at d0 d1 d2
  have HV := l04Ok_c _ _ _ _ r p pa sa pc sc _ hr ⟨d0, d1, d2⟩ (h.below F0.below (Nat.le_refl _)) m1 m2
  have HH := Lib.hid h
  clear hr d0 d1 d2 h
  cases hok : p.ok r
  · rw [hok] at HV
    have HV := Lib.hid HV
    have HP := Lib.hid (resP_bad hok)
    clear hok
    go_enter Try.func75, Try.ntmps75
    go_wp2_with fail
    refine HV.out.mono ?_
    rintro e w1 ⟨rfl, n, hm⟩
    have F1 := F0.step (show Below _ _ w1 from hm ▸ below_draws _ _ n)
    clear hm HV F0
    go_wp2
    go_ret2
    refine ⟨[], none, 0, ?_, ?_, mks_nil _ _, F1.below⟩ <;> rw [HP.out] <;> rfl
  · rw [hok] at HV
    have HV := Lib.hid HV
    have HO := Lib.hid hok
    have HP := Lib.hid (resP_ok hok)
    clear hok
    go_enter Try.func75, Try.ntmps75
    go_wp2_with fail
    refine HV.out.mono ?_
    rintro e w1 ⟨rfl, n, hm⟩
    have F1 := F0.step (show Below _ _ w1 from hm ▸ below_draws _ _ n)
    have hr := R.boxc (F1.at 1 rfl)
    obtain ⟨d0, d1, d2⟩ := P.boxc (F1.at 0 rfl)
    simp only [World.size_alloc] at d0 d1 d2
    have HM := Lib.hid (l07All_c _ _ _ _ r p HO.out pa sa pc sc _ hr ⟨d0, d1, d2⟩ (HH.out.below F1.below (Nat.le_refl _)) m1 m2)
    clear hm HV F0 hr d0 d1 d2
    go_wp2_with fail
    refine HM.out.mono ?_
    rintro e w2 ⟨l, ad, c, hl, rfl, ho, hb2⟩
    have HX := Lib.hid (⟨hl, ho.le F1.below.size, below_next F1.below hb2⟩ : _ ∧ _ ∧ _)
    clear hl ho hb2 F1 HM
    go_wp2
    go_ret2
    exact ⟨l, ad, c, HX.out.1.trans (by rw [HP.out]), by rw [HP.out]; rfl, HX.out.2.1, HX.out.2.2⟩

/-! ### equal -/
theorem snd_get {l m : List (Mk × MA)} (h : l.map Prod.fst = m.map Prod.fst) {k : Nat} (hk : k < l.length) (hk' : k < m.length) : m[k] = (l[k].1, m[k].2) := by
  have h1 : (l.map Prod.fst)[k]? = (m.map Prod.fst)[k]? := by rw [h]
  simp [hk, hk'] at h1
  rw [h1]
set_option maxHeartbeats 4000000 in
theorem eqResult_c (x : Mk) (K M : MA) (w : World) (hx : PRow w ⟨x.pits, x.stores, x.player⟩ K.pa K.sa) (hy : PRow w ⟨x.pits, x.stores, x.player⟩ M.pa M.sa) (m1 : x.pits.length ≤ maxLen) (m2 : x.stores.length ≤ maxLen) :
    Calls Try.prog 161 #[x.val K.pa K.pc K.sa K.sc, x.val M.pa M.pc M.sa M.sc] w fun e w' => e = .returned (.bool true) ∧ Below w.heap.size w w' := by
  go_enter Try.func161, Try.ntmps161
  go_wp2_with fail
  refine (eqPosition_c ⟨x.pits, x.stores, x.player⟩ ⟨x.pits, x.stores, x.player⟩ K.pa K.sa M.pa M.sa K.pc K.sc M.pc M.sc _ (hx.below (below_alloc2 _ _ _) (Nat.le_refl _)) (hy.below (below_alloc2 _ _ _) (Nat.le_refl _)) m1 m2 m1 m2).mono ?_
  rintro e w1 ⟨rfl, hb⟩
  have HB := Lib.hid (below_next (below_alloc2 _ _ _) hb)
  rw [decide_eq_true rfl]
  clear hb
  go_wp2
  go_ret
  exact ⟨rfl, HB.out⟩
/-- what reading such a list needs -/
structure MRows (w : World) (a : Option Addr) (l : List (Mk × MA)) : Prop where
  row : Row w a (flat resRL.f l)
  items : ∀ x ∈ l, PRow w ⟨x.1.pits, x.1.stores, x.1.player⟩ x.2.pa x.2.sa
theorem MRows.below {B : Nat} {w w' : World} {a : Option Addr} {l : List (Mk × MA)} (h : MRows w a l) (hb : Below B w w') (hB : w.heap.size ≤ B) : MRows w' a l := ⟨h.row.below hb hB, fun x hx => (h.items x hx).below hb hB⟩
theorem pcs_rows {w : World} {lo hi c : Nat} {ad : Option Addr} {l : List (Mk × MA)} (h : PcsP lo hi (resRL.pcs ad c l) w) : MRows w ad l :=
  ⟨own_row (RL.main h), fun x hx => ⟨own_row (RL.row h hx (q := pieceI x.2.pa x.2.pc x.1.pits) (List.mem_cons_self ..)), own_row (RL.row h hx (q := pieceI x.2.sa x.2.sc x.1.stores) (List.mem_cons_of_mem _ (List.mem_cons_self ..)))⟩⟩
theorem MRows.at {w : World} {a : Option Addr} {l : List (Mk × MA)} (h : MRows w a l) {k : Nat} {x : Mk × MA} (hx : l[k]? = some x) :
    ∃ b off, a = some ⟨b, off, none⟩ ∧ b < w.heap.size ∧ (w.cell? ⟨b, off + k * 6, none⟩ = some (.int .i64 x.1.move) ∧ w.cell? ⟨b, off + k * 6 + 1, none⟩ = some (.int .i64 x.1.gain) ∧ w.cell? ⟨b, off + k * 6 + 2, none⟩ = some (.bool x.1.again) ∧
      w.cell? ⟨b, off + k * 6 + 3, none⟩ = some (.slice x.2.pa x.1.pits.length x.2.pc) ∧ w.cell? ⟨b, off + k * 6 + 4, none⟩ = some (.slice x.2.sa x.1.stores.length x.2.sc) ∧ w.cell? ⟨b, off + k * 6 + 5, none⟩ = some (.int .i64 x.1.player)) := by
  obtain ⟨b, off, ha, hb, hc⟩ := Row.item (f := resRL.f) resRL.hf h.row hx (by decide)
  have key : ∀ j v, j < 6 → (resRL.f x)[j]? = some v → w.cell? ⟨b, off + k * 6 + j, none⟩ = some v := fun j v hj hv => by
    have := hc j v hj hv
    rw [show off + k * 6 + j = off + (k * resRL.n + j) by rw [show resRL.n = 6 from rfl]; omega]
    exact this
  exact ⟨b, off, ha, hb, key 0 _ (by omega) rfl, key 1 _ (by omega) rfl, key 2 _ (by omega) rfl, key 3 _ (by omega) rfl, key 4 _ (by omega) rfl, key 5 _ (by omega) rfl⟩
set_option maxRecDepth 100000 in
set_option maxHeartbeats 4000000 in
theorem eqResultS_c (l m : List (Mk × MA)) (a b : Option Addr) (c d : Nat) (w : World) (hl : MRows w a l) (hm : MRows w b m) (he : l.map Prod.fst = m.map Prod.fst) (hn : l.length ≤ 1048576) (hq : ∀ x ∈ l, x.1.pits.length ≤ maxLen ∧ x.1.stores.length ≤ maxLen) :
    Calls Try.prog 79 #[.slice a l.length c, .slice b m.length d] w fun e w' => e = .returned (.bool true) ∧ Below w.heap.size w w' := by
  have hlm : m.length = l.length := by have := congrArg List.length he; simpa using this.symm
  have HLM := Lib.hid hlm
  have HL := Lib.hid hl
  have HM := Lib.hid hm
  have HE := Lib.hid he
  have HQ := Lib.hid hq
  rw [hlm]
  clear hl hm he hq hlm
  go_enter Try.func79, Try.ntmps79
  go_wp2_with fail
  go_loopw [5] (fun i wr => ∃ (j : Nat), i = .int .i64 j ∧ j ≤ l.length ∧ Hid (Below w.heap.size w wr)) (fun i _ => l.length - (intOf i).toNat)
  case atStart => exact ⟨0, rfl, Nat.zero_le _, Lib.hid (Below.refl _ _)⟩
  case round =>
    obtain ⟨j, rfl, hj, HB⟩ := hrel
    by_cases hlt : j < l.length
    · have hlt' : j < m.length := by have := HLM.out; omega
      obtain ⟨ab, ao, ha, hab, hA⟩ := (HL.out.below HB.out (Nat.le_refl _)).at (k := j) (x := l[j]) (by simp [hlt])
      obtain ⟨bb, bo, hb, hbb, hB⟩ := (HM.out.below HB.out (Nat.le_refl _)).at (k := j) (x := (l[j].1, m[j].2)) (by rw [← snd_get HE.out hlt hlt']; simp [hlt'])
      subst ha hb
      have HI := Lib.hid ((HL.out.items l[j] (List.getElem_mem hlt)).below HB.out (Nat.le_refl _))
      have HJ := Lib.hid ((HM.out.items m[j] (List.getElem_mem hlt')).below HB.out (Nat.le_refl _))
      rw [snd_get HE.out hlt hlt'] at HJ
      have HN := Lib.hid (HQ.out l[j] (List.getElem_mem hlt))
      obtain ⟨y, hy⟩ : ∃ y, y = l[j] := ⟨_, rfl⟩
      obtain ⟨M, hM⟩ : ∃ y, y = m[j].2 := ⟨_, rfl⟩
      rw [← hy] at hA hB HI HJ HN
      rw [← hM] at hB HJ
      clear hy hM
      obtain ⟨x, KX⟩ := y
      dsimp only at hA hB HI HJ HN
      have HA := Lib.hid hA
      have HBB := Lib.hid hB
      go_upto_region 6 with fail
      refine heldH (S := fun W => (W.cell? ⟨ab, ao + j * 6, none⟩ = some (.int .i64 x.move) ∧ W.cell? ⟨ab, ao + j * 6 + 1, none⟩ = some (.int .i64 x.gain) ∧ W.cell? ⟨ab, ao + j * 6 + 2, none⟩ = some (.bool x.again) ∧ W.cell? ⟨ab, ao + j * 6 + 3, none⟩ = some (.slice KX.pa x.pits.length KX.pc) ∧ W.cell? ⟨ab, ao + j * 6 + 4, none⟩ = some (.slice KX.sa x.stores.length KX.sc) ∧ W.cell? ⟨ab, ao + j * 6 + 5, none⟩ = some (.int .i64 x.player)) ∧ (W.cell? ⟨bb, bo + j * 6, none⟩ = some (.int .i64 x.move) ∧ W.cell? ⟨bb, bo + j * 6 + 1, none⟩ = some (.int .i64 x.gain) ∧ W.cell? ⟨bb, bo + j * 6 + 2, none⟩ = some (.bool x.again) ∧ W.cell? ⟨bb, bo + j * 6 + 3, none⟩ = some (.slice M.pa x.pits.length M.pc) ∧ W.cell? ⟨bb, bo + j * 6 + 4, none⟩ = some (.slice M.sa x.stores.length M.sc) ∧ W.cell? ⟨bb, bo + j * 6 + 5, none⟩ = some (.int .i64 x.player))) (n := 10) (listed := #[false, false, false, false, false, false, false, false, false, false]) (by kernel_rfl) (by rfl) (by rfl) ?_ (fun hHeld => ?_)
      (focus ((try dsimp only); (first | done | ((first | exact HK2.out | exact ⟨hA, hB⟩); done))))
      (refine takeH (i := 0) (v := ?_) (by decide +kernel) (by decide +kernel) (by kernel_rfl) (by rfl) (by exact fun _ _ _ h => h) (by rfl) ?_ (by assumption) ?_); rotate_left; (focus (intro w hSw; (try dsimp only at hSw); go_simp; (try with_reducible rfl); done)); (try simp only [Act.put, List.setIfInBounds_toArray, List.set_cons_zero, List.set_cons_succ])
      (refine takeH (i := 1) (v := ?_) (by decide +kernel) (by decide +kernel) (by kernel_rfl) (by rfl) (by exact fun _ _ _ h => h) (by rfl) ?_ (by assumption) ?_); rotate_left; (focus (intro w hSw; (try dsimp only at hSw); go_simp; (try with_reducible rfl); done)); (try simp only [Act.put, List.setIfInBounds_toArray, List.set_cons_zero, List.set_cons_succ])
      (refine takeH (i := 2) (v := ?_) (by decide +kernel) (by decide +kernel) (by kernel_rfl) (by rfl) (by exact fun _ _ _ h => h) (by rfl) ?_ (by assumption) ?_); rotate_left; (focus (intro w hSw; (try dsimp only at hSw); go_simp; (try with_reducible rfl); done)); (try simp only [Act.put, List.setIfInBounds_toArray, List.set_cons_zero, List.set_cons_succ])
      (refine takeH (i := 3) (v := ?_) (by decide +kernel) (by decide +kernel) (by kernel_rfl) (by rfl) (by exact fun _ _ _ h => h) (by rfl) ?_ (by assumption) ?_); rotate_left; (focus (intro w hSw; (try dsimp only at hSw); go_simp; (try with_reducible rfl); done)); (try simp only [Act.put, List.setIfInBounds_toArray, List.set_cons_zero, List.set_cons_succ])
      (refine takeH (i := 4) (v := ?_) (by decide +kernel) (by decide +kernel) (by kernel_rfl) (by rfl) (by exact fun _ _ _ h => h) (by rfl) ?_ (by assumption) ?_); rotate_left; (focus (intro w hSw; (try dsimp only at hSw); go_simp; (try with_reducible rfl); done)); (try simp only [Act.put, List.setIfInBounds_toArray, List.set_cons_zero, List.set_cons_succ])
      (refine takeH (i := 5) (v := ?_) (by decide +kernel) (by decide +kernel) (by kernel_rfl) (by rfl) (by exact fun _ _ _ h => h) (by rfl) ?_ (by assumption) ?_); rotate_left; (focus (intro w hSw; (try dsimp only at hSw); go_simp; (try with_reducible rfl); done)); (try simp only [Act.put, List.setIfInBounds_toArray, List.set_cons_zero, List.set_cons_succ])
      (refine takeH (i := 6) (v := ?_) (by decide +kernel) (by decide +kernel) (by kernel_rfl) (by rfl) (by exact fun _ _ _ h => h) (by rfl) ?_ (by assumption) ?_); rotate_left; (focus (intro w hSw; (try dsimp only at hSw); go_simp; (try with_reducible rfl); done)); (try simp only [Act.put, List.setIfInBounds_toArray, List.set_cons_zero, List.set_cons_succ])
      (refine takeH (i := 7) (v := ?_) (by decide +kernel) (by decide +kernel) (by kernel_rfl) (by rfl) (by exact fun _ _ _ h => h) (by rfl) ?_ (by assumption) ?_); rotate_left; (focus (intro w hSw; (try dsimp only at hSw); go_simp; (try with_reducible rfl); done)); (try simp only [Act.put, List.setIfInBounds_toArray, List.set_cons_zero, List.set_cons_succ])
      refine nextH (i := 8) (by decide +kernel) (by rfl) (by rfl) (fun K hK => ?_)
      go_simp
      (go_at_call 161; (refine (eqResult_c x KX M _ (HI.out.below (Below.refl _ _).drew (Nat.le_refl _)) (HJ.out.below (Below.refl _ _).drew (Nat.le_refl _)) HN.out.1 HN.out.2).mono ?_); (rintro e w2 ⟨rfl, hb2⟩); (have hc2 := (bcell hb2).1); (have HK2 := Lib.hid (And.intro (And.intro ((hc2 _ _ hab).trans HA.out.1) (And.intro ((hc2 _ _ hab).trans HA.out.2.1) (And.intro ((hc2 _ _ hab).trans HA.out.2.2.1) (And.intro ((hc2 _ _ hab).trans HA.out.2.2.2.1) (And.intro ((hc2 _ _ hab).trans HA.out.2.2.2.2.1) ((hc2 _ _ hab).trans HA.out.2.2.2.2.2)))))) (And.intro ((hc2 _ _ hbb).trans HBB.out.1) (And.intro ((hc2 _ _ hbb).trans HBB.out.2.1) (And.intro ((hc2 _ _ hbb).trans HBB.out.2.2.1) (And.intro ((hc2 _ _ hbb).trans HBB.out.2.2.2.1) (And.intro ((hc2 _ _ hbb).trans HBB.out.2.2.2.2.1) ((hc2 _ _ hbb).trans HBB.out.2.2.2.2.2)))))))))
      refine hK.out _ _ ?_ (fun hHeld' => ?_)
      (focus ((try dsimp only); (first | done | ((first | exact HK2.out | exact ⟨hA, hB⟩); done))))
      clear hK K hHeld
      have hHeld := hHeld'
      clear hHeld'
      (try simp only [Act.put, List.setIfInBounds_toArray, List.set_cons_zero, List.set_cons_succ])
      (refine takeH (i := 9) (v := ?_) (by decide +kernel) (by decide +kernel) (by kernel_rfl) (by rfl) (by exact fun _ _ _ h => h) (by rfl) ?_ (by assumption) ?_); rotate_left; (focus (intro w hSw; (try dsimp only at hSw); go_simp; (try with_reducible rfl); done)); (try simp only [Act.put, List.setIfInBounds_toArray, List.set_cons_zero, List.set_cons_succ])
      refine wpAnyH_done (by decide +kernel) ?_ _
      have HB2 := Lib.hid (below_next HB.out.drew hb2)
      clear hHeld hb2 HB HI HJ HA HBB hA hB hc2 HK2
      go_wp2
      go_roundw
      case rel => exact ⟨j + 1, by go_num, by omega, HB2⟩
      case measure => simp [intOf]; omega
    · go_wp2
      go_ret
      exact ⟨rfl, HB.out⟩

/-! ### marked -/
def mkM (x : Mk × MA) (k : Int) : Mk × MA := (⟨x.1.code, k, k + 1, (k + 1 + 1) % 3 == 0, marks (k + 1 + 1 + 1) x.1.pits.length, marks (k + 1 + 1 + 1 + x.1.pits.length) x.1.stores.length, k + 1 + 1 + 1 + x.1.pits.length + x.1.stores.length⟩, x.2)
def szM (x : Mk × MA) : Int := 4 + x.1.pits.length + x.1.stores.length
theorem szM_pos (x : Mk × MA) : 0 ≤ szM x := by unfold szM; omega
set_option maxRecDepth 100000 in
set_option maxHeartbeats 8000000 in
theorem markResultS_c (lo hi : Nat) (ad : Option Addr) (c : Nat) (l : List (Mk × MA)) (k : Int) (w : World) (h : PcsP lo hi (resRL.pcs ad c l) w) (hh : hi ≤ w.heap.size) (hn : l.length ≤ 1048576) (hk : 0 ≤ k) (hk' : k + mkSum szM l ≤ 1099511627776) :
    Calls Try.prog 82 #[.slice ad l.length c, .int .i64 k] w fun e w' => e = .returned (.int .i64 (k + mkSum szM l)) ∧ PcsP lo hi (resRL.pcs ad c (mkGo mkM szM l k)) w' ∧ Chg lo hi w w' := by
  have HH := Lib.hid h
  clear h
  go_enter Try.func82, Try.ntmps82
  go_wp2
  go_loopw [1, 5] (fun q i wr => ∃ j : Nat, j ≤ l.length ∧ i = .int .i64 j ∧ q = .int .i64 (mkAt szM l k j) ∧ Hid (PcsP lo hi (resRL.pcs ad c (mkd mkM szM l k j)) wr ∧ Chg lo hi w wr)) (fun _ i _ => l.length - (intOf i).toNat)
  case atStart => exact ⟨0, Nat.zero_le _, rfl, by rw [mkAt_zero], by unfold Hid; rw [mkd_zero]; exact ⟨HH.out, Chg.refl _ _ _⟩⟩
  case round =>
    obtain ⟨j, hj, rfl, rfl, HST⟩ := hrel
    clear HH
    by_cases hlt : j < l.length
    · have hx0 : l[j]? = some l[j] := List.getElem?_eq_getElem hlt
      have hx1 : (mkd mkM szM l k j)[j]? = some l[j] := by rw [mkd_get mkM szM k hlt]; exact hx0
      have HN : Hid (mkAt szM l k (j + 1) = mkAt szM l k j + szM l[j]) := mkAt_succ szM k hx0
      have HS : Hid ((mkd mkM szM l k j).set j (mkM l[j] (mkAt szM l k j)) = mkd mkM szM l k (j + 1)) := mkd_set mkM szM k hx0
      have hb1 := mkAt_le szM szM_pos l k j
      have hb2 := mkAt_le szM szM_pos l k (j + 1)
      have HLL : Hid ((mkd mkM szM l k j).length = l.length) := mkd_len mkM szM l k j
      rw [HN.out] at hb2
      obtain ⟨y, hy⟩ : ∃ y, y = l[j] := ⟨_, rfl⟩
      obtain ⟨K, hK⟩ : ∃ K, K = mkAt szM l k j := ⟨_, rfl⟩
      obtain ⟨L, hL⟩ : ∃ L, L = mkd mkM szM l k j := ⟨_, rfl⟩
      rw [← hK] at HN HS hb1 hb2 ⊢
      rw [← hy] at HN HS hx1 hb2
      rw [← hL] at HS hx1 HST HLL
      clear hy hK hL hx0
      obtain ⟨x, A⟩ := y
      simp only [szM] at hb2
      obtain ⟨h0, hC0⟩ := HST.out
      obtain ⟨g, hg, hg1, hg2⟩ := RL.at h0 (by have := HLL.out; omega)
      subst hg
      obtain ⟨q0, f0⟩ : _ ∧ _ := RL.cell h0 hx1 (i := 0) (by decide) rfl
      obtain ⟨q1, f1⟩ : _ ∧ _ := RL.cell h0 hx1 (i := 1) (by decide) rfl
      obtain ⟨q2, f2⟩ : _ ∧ _ := RL.cell h0 hx1 (i := 2) (by decide) rfl
      obtain ⟨q3, f3⟩ : _ ∧ _ := RL.cell h0 hx1 (i := 3) (by decide) rfl
      have gf := fun o => (RL.main h0).frozenAt o
      have HL0 := HLL.out
      obtain ⟨h1, hC1⟩ := RL.setField h0 hx1 (i := 0) (v := .int .i64 K) (x' := (⟨x.code, K, x.gain, x.again, x.pits, x.stores, x.player⟩, A)) (by decide) rfl rfl
      have hx2 : (L.set j (⟨x.code, K, x.gain, x.again, x.pits, x.stores, x.player⟩, A))[j]? = some (⟨x.code, K, x.gain, x.again, x.pits, x.stores, x.player⟩, A) := List.getElem?_set_self (by omega)
      obtain ⟨h2, hC2⟩ := RL.setField h1 hx2 (i := 1) (v := .int .i64 (K + 1)) (x' := (⟨x.code, K, K + 1, x.again, x.pits, x.stores, x.player⟩, A)) (by decide) rfl rfl
      rw [List.set_set] at h2
      have hx3 : (L.set j (⟨x.code, K, K + 1, x.again, x.pits, x.stores, x.player⟩, A))[j]? = some (⟨x.code, K, K + 1, x.again, x.pits, x.stores, x.player⟩, A) := List.getElem?_set_self (by omega)
      obtain ⟨h3, hC3⟩ := RL.setField h2 hx3 (i := 2) (v := .bool ((K + 1 + 1) % 3 == 0)) (x' := (⟨x.code, K, K + 1, (K + 1 + 1) % 3 == 0, x.pits, x.stores, x.player⟩, A)) (by decide) rfl rfl
      rw [List.set_set] at h3
      have hc3 := ((hC0.trans hC1).trans hC2).trans hC3
      simp only [show resRL.n = 6 from rfl, Nat.add_zero] at q0 q1 q2 q3 f0 f1 f2 f3 h3 hc3
      have HH3 := Lib.hid (And.intro h3 hc3)
      have hx4 : (L.set j (⟨x.code, K, K + 1, (K + 1 + 1) % 3 == 0, x.pits, x.stores, x.player⟩, A))[j]? = some (⟨x.code, K, K + 1, (K + 1 + 1) % 3 == 0, x.pits, x.stores, x.player⟩, A) := List.getElem?_set_self (by omega)
      have hx5 : (L.set j (⟨x.code, K, K + 1, (K + 1 + 1) % 3 == 0, marks (K + 1 + 1 + 1) x.pits.length, x.stores, x.player⟩, A))[j]? = some (⟨x.code, K, K + 1, (K + 1 + 1) % 3 == 0, marks (K + 1 + 1 + 1) x.pits.length, x.stores, x.player⟩, A) := List.getElem?_set_self (by omega)
      have hx6 : (L.set j (⟨x.code, K, K + 1, (K + 1 + 1) % 3 == 0, marks (K + 1 + 1 + 1) x.pits.length, marks (K + 1 + 1 + 1 + x.pits.length) x.stores.length, x.player⟩, A))[j]? = some (⟨x.code, K, K + 1, (K + 1 + 1) % 3 == 0, marks (K + 1 + 1 + 1) x.pits.length, marks (K + 1 + 1 + 1 + x.pits.length) x.stores.length, x.player⟩, A) := List.getElem?_set_self (by omega)
      clear h0 h1 h2 h3 hC0 hC1 hC2 hC3 hc3 HST hx1 hx2 hx3 HL0
      have HX4 := Lib.hid hx4
      have HX5 := Lib.hid hx5
      have HX6 := Lib.hid hx6
      clear hx4 hx5 hx6
      go_wp2_with fail
      refine (markInt64S_c lo A.pa x.pits.length A.pc x.pits (K + 1 + 1 + 1) _ (RL.row HH3.out.1 (List.mem_of_getElem? HX4.out) (List.mem_cons_self ..)) (by omega) (by omega)).mono ?_
      rintro e w4 ⟨rfl, ho4, hg4⟩
      obtain ⟨h4, hC4⟩ := RL.setRow HH3.out.1 HX4.out (i := 0) (q := pieceI A.pa A.pc x.pits) (q' := ⟨2, 1, .slice A.pa x.pits.length A.pc, x.pits.length, (marks (K + 1 + 1 + 1) x.pits.length).map (Value.int .i64)⟩) (x' := (⟨x.code, K, K + 1, (K + 1 + 1) % 3 == 0, marks (K + 1 + 1 + 1) x.pits.length, x.stores, x.player⟩, A)) (by decide) rfl hg4 ho4 rfl (by simp [resRL, pieceI, marks_length]) (by simp [resRL, Mk.cells, marks_length])
      rw [List.set_set] at h4
      obtain ⟨q4, f4⟩ : _ ∧ _ := RL.cell h4 HX5.out (i := 4) (by decide) rfl
      simp only [show resRL.n = 6 from rfl] at q4 f4
      have HH4 := Lib.hid (And.intro h4 (HH3.out.2.trans hC4))
      clear h4 hC4 ho4 hg4 HH3 q0 q1 q2 q3 f0 f1 f2 f3 gf
      go_wp2_with fail
      refine (markInt64S_c lo A.sa x.stores.length A.sc x.stores (K + 1 + 1 + 1 + x.pits.length) _ (RL.row HH4.out.1 (List.mem_of_getElem? HX5.out) (List.mem_cons_of_mem _ (List.mem_cons_self ..))) (by omega) (by omega)).mono ?_
      rintro e w5 ⟨rfl, ho5, hg5⟩
      obtain ⟨h5, hC5⟩ := RL.setRow HH4.out.1 HX5.out (i := 1) (q := pieceI A.sa A.sc x.stores) (q' := ⟨2, 1, .slice A.sa x.stores.length A.sc, x.stores.length, (marks (K + 1 + 1 + 1 + x.pits.length) x.stores.length).map (Value.int .i64)⟩) (x' := (⟨x.code, K, K + 1, (K + 1 + 1) % 3 == 0, marks (K + 1 + 1 + 1) x.pits.length, marks (K + 1 + 1 + 1 + x.pits.length) x.stores.length, x.player⟩, A)) (by decide) rfl hg5 ho5 rfl (by simp [resRL, pieceI, marks_length]) (by simp [resRL, Mk.cells, marks_length])
      rw [List.set_set] at h5
      obtain ⟨q5, f5⟩ : _ ∧ _ := RL.cell h5 HX6.out (i := 5) (by decide) rfl
      obtain ⟨h6, hC6⟩ := RL.setField h5 HX6.out (i := 5) (v := .int .i64 (K + 1 + 1 + 1 + x.pits.length + x.stores.length)) (x' := (⟨x.code, K, K + 1, (K + 1 + 1) % 3 == 0, marks (K + 1 + 1 + 1) x.pits.length, marks (K + 1 + 1 + 1 + x.pits.length) x.stores.length, K + 1 + 1 + 1 + x.pits.length + x.stores.length⟩, A)) (by decide) rfl rfl
      simp only [show resRL.n = 6 from rfl] at q5 f5 h6 hC6
      rw [List.set_set] at h6
      have HS6 : Hid (L.set j (⟨x.code, K, K + 1, (K + 1 + 1) % 3 == 0, marks (K + 1 + 1 + 1) x.pits.length, marks (K + 1 + 1 + 1 + x.pits.length) x.stores.length, K + 1 + 1 + 1 + x.pits.length + x.stores.length⟩, A) = mkd mkM szM l k (j + 1)) := HS.out
      rw [HS6.out] at h6
      have HH6 := Lib.hid (And.intro h6 ((HH4.out.2.trans hC5).trans hC6))
      clear h5 h6 hC5 hC6 ho5 hg5 HH4 q4 f4 HX4 HX5 HX6 HS HS6
      have HNE : Hid (mkAt szM l k (j + 1) = K + 1 + 1 + 1 + x.pits.length + x.stores.length + 1) := by
        have := HN.out
        unfold Hid
        rw [this]
        simp only [szM]
        omega
      clear HN
      go_wp2
      go_roundw
      case rel => exact ⟨j + 1, by omega, by go_num, by rw [HNE.out], HH6⟩
      case measure => simp [intOf]; omega
    · obtain rfl : j = l.length := by omega
      have := HST.out
      rw [mkd_all] at this
      have HR := Lib.hid this
      clear this HST
      rw [mkAt_all]
      go_wp2
      go_ret
      exact ⟨rfl, HR.out.1, HR.out.2⟩

set_option maxRecDepth 100000 in
set_option maxHeartbeats 8000000 in
theorem heldResultS_c (a : Option Addr) (c : Nat) (l : List (Mk × MA)) (k : Int) (w : World) (h : MRows w a (mkGo mkM szM l k)) (hn : l.length ≤ 1048576) (hk : 0 ≤ k) (hk' : k + mkSum szM l ≤ 1099511627776) :
    Calls Try.prog 83 #[.slice a l.length c, .int .i64 k] w fun e w' => e = .returned (.int .i64 (k + mkSum szM l)) ∧ w = w' := by
  have HH := Lib.hid h
  clear h
  go_enter Try.func83, Try.ntmps83
  go_wp2
  go_loop [1, 5] (fun q i => ∃ j : Nat, j ≤ l.length ∧ i = .int .i64 j ∧ q = .int .i64 (mkAt szM l k j)) (fun _ i => l.length - (intOf i).toNat)
  case atStart => exact ⟨0, Nat.zero_le _, rfl, by rw [mkAt_zero]⟩
  case round =>
    obtain ⟨j, hj, rfl, rfl⟩ := hrel
    by_cases hlt : j < l.length
    · have hx0 : l[j]? = some l[j] := List.getElem?_eq_getElem hlt
      have hx1 : (mkGo mkM szM l k)[j]? = some (mkM l[j] (mkAt szM l k j)) := mkGo_get mkM szM k hx0
      have HN : Hid (mkAt szM l k (j + 1) = mkAt szM l k j + szM l[j]) := mkAt_succ szM k hx0
      have hb1 := mkAt_le szM szM_pos l k j
      have hb2 := mkAt_le szM szM_pos l k (j + 1)
      rw [HN.out] at hb2
      obtain ⟨y, hy⟩ : ∃ y, y = l[j] := ⟨_, rfl⟩
      obtain ⟨K, hK⟩ : ∃ K, K = mkAt szM l k j := ⟨_, rfl⟩
      rw [← hK] at HN hx1 hb1 hb2 ⊢
      rw [← hy] at HN hx1 hb2
      clear hy hK hx0
      obtain ⟨x, A⟩ := y
      simp only [szM] at hb2
      obtain ⟨b, off, ha, hb, q0, q1, q2, q3, q4, q5⟩ := HH.out.at hx1
      obtain ⟨hr1, hr2⟩ := HH.out.items _ (List.mem_of_getElem? hx1)
      subst ha
      simp only [mkM, marks_length] at q0 q1 q2 q3 q4 q5 hr1 hr2
      have HR1 := Lib.hid hr1
      have HR2 := Lib.hid hr2
      have HNE : Hid (mkAt szM l k (j + 1) = K + 1 + 1 + 1 + x.pits.length + x.stores.length + 1) := by
        have := HN.out
        unfold Hid
        rw [this]
        simp only [szM]
        omega
      clear hr1 hr2 hx1 HN
      have n1 : ¬ K + 1 + 1 + 1 + x.pits.length < 0 := by omega
      have n2 : ¬ K + 1 + 1 + 1 + x.pits.length + x.stores.length < 0 := by omega
      go_wp2_with fail
      refine (heldInt64S_c A.pa x.pits.length A.pc (K + 1 + 1 + 1) _ HR1.out (by omega) (by omega)).mono ?_
      rintro e w1 ⟨rfl, rfl⟩
      go_wp2_with fail
      refine (heldInt64S_c A.sa x.stores.length A.sc (K + 1 + 1 + 1 + x.pits.length) _ HR2.out (by omega) (by omega)).mono ?_
      rintro e w1 ⟨rfl, rfl⟩
      go_wp2
      go_round
      case rel => exact ⟨j + 1, by omega, by go_num, by rw [HNE.out]⟩
      case measure => simp [intOf]; omega
    · obtain rfl : j = l.length := by omega
      rw [mkAt_all]
      go_wp2
      go_ret
      exact ⟨rfl, rfl⟩

/-! ### few and short -/
theorem allP_few (r : R) (p : P) : (allP r p).length ≤ r.pits.toNat ∧ ∀ x ∈ allP r p, x.pits.length ≤ 24 ∧ x.stores.length = 2 := by
  refine ⟨allGo_len r p _, fun x hx => ?_⟩
  unfold allP allGo at hx
  obtain ⟨m, hm, he⟩ := List.mem_filterMap.1 hx
  unfold mkO at he
  split at he
  · rename_i h0
    obtain rfl : makeP r p m = x := by simpa using he
    have hd : (doneP r p m).code = 0 := by rw [← makeP_code]; exact h0
    obtain ⟨f1, _, _, _, f2⟩ := doneP_facts hd
    rw [makeP_ok hd]
    exact ⟨f2, f1⟩
  · cases he
theorem resP_few (r : R) (p : P) : (resP r p).1.length ≤ 1000 ∧ ∀ x ∈ (resP r p).1, x.pits.length ≤ 1000 ∧ x.stores.length ≤ 1000 := by
  cases h : p.ok r
  · rw [resP_bad h]
    exact ⟨by simp, fun x hx => by cases hx⟩
  · rw [resP_ok h]
    obtain ⟨h1, h2⟩ := allP_few r p
    have hhi := (P.ok_parts h).1.hi
    refine ⟨by simp only; omega, fun x hx => ?_⟩
    obtain ⟨h3, h4⟩ := h2 x hx
    omega
theorem mkSum_few : ∀ {l : List (Mk × MA)}, (∀ x ∈ l, x.1.pits.length ≤ 1000 ∧ x.1.stores.length ≤ 1000) → 0 ≤ mkSum szM l ∧ mkSum szM l ≤ (l.length : Int) * 2004
  | [], _ => by simp [mkSum]
  | x :: l, h => by
    have h1 := mkSum_few (l := l) (fun y hy => h y (List.mem_cons_of_mem _ hy))
    have h2 := h x (List.mem_cons_self ..)
    simp only [mkSum, szM, List.length_cons]
    omega
theorem mks_few {l : List (Mk × MA)} {y : List Mk} (hl : l.map Prod.fst = y) (hy : y.length ≤ 1000) (hq : ∀ x ∈ y, x.pits.length ≤ 1000 ∧ x.stores.length ≤ 1000) :
    l.length ≤ 1048576 ∧ (∀ x ∈ l, x.1.pits.length ≤ maxLen ∧ x.1.stores.length ≤ maxLen) ∧ 0 ≤ mkSum szM l ∧ mkSum szM l ≤ 2004000 := by
  have hn : l.length ≤ 1000 := by rw [← hl] at hy; simpa using hy
  have hq' : ∀ x ∈ l, x.1.pits.length ≤ 1000 ∧ x.1.stores.length ≤ 1000 := fun x hx => hq _ (by rw [← hl]; exact List.mem_map_of_mem hx)
  have := mkSum_few hq'
  refine ⟨by omega, fun x hx => ?_, this.1, by omega⟩
  have := hq' x hx
  unfold maxLen
  omega

end Go.Proofs.Ytbjdfgfebepacaa
