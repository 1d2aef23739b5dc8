/- Slt3: lists of slots: the law's own functions that compare, mark and read them. Each contract holds for every argument, under the premises that it states. -/
import Derived.Test.YtbjgigdkbjabaaaSlt2
namespace Go.Proofs.Ytbjgigdkbjabaaa
set_option linter.unusedSimpArgs false
set_option linter.unusedVariables false
set_option linter.unnecessarySimpa false
open Go.RowKit Go.ChangeShapes Go.WideShapes Go.ChangeAt Go.Joins

theorem sl_get {l m : List (Sl × SA)} (h : l.map Prod.fst = m.map Prod.fst) {k : Nat} (hk : k < l.length) (hk' : k < m.length) : m[k] = (l[k].1, m[k].2) := by
  have h1 : (l.map Prod.fst)[k]? = (m.map Prod.fst)[k]? := by rw [h]
  simp [hk, hk'] at h1
  rw [h1]
set_option maxHeartbeats 4000000 in
theorem eqSlot_c (x : Sl) (k m : SA) (w : World) (hx : Ints w k.qa x.pits) (hy : Ints w m.qa x.pits) (hm : x.pits.length ≤ maxLen) :
    Calls Try.prog 130 #[x.val k, x.val m] w fun e w' => e = .returned (.bool true) ∧ Below w.heap.size w w' := by
  have F0 := ((Fr.start w).alloc (x.cells k) 113).alloc (x.cells m) 113
  simp only [World.size_alloc] at F0
  have HX := Lib.hid (hx.below F0.below (Nat.le_refl _))
  have HY := Lib.hid (hy.below F0.below (Nat.le_refl _))
  clear hx hy
  go_enter Try.func130, Try.ntmps130
  go_wp2_with fail
  refine (eqInt64S_c _ _ _ _ x.pits x.pits _ HX.out HY.out hm hm).mono ?_
  rintro e w' ⟨rfl, n, rfl⟩
  have F1 := F0.drawn n
  have HB := Lib.hid F1.below
  rw [decide_eq_true rfl]
  clear F0 F1 HX HY
  go_wp2
  go_ret
  exact ⟨rfl, HB.out⟩
set_option maxRecDepth 100000 in
set_option maxHeartbeats 4000000 in
theorem eqSlotS_c (l m : List (Sl × SA)) (a b : Option Addr) (c d : Nat) (w : World) (hl : SRows w a l) (hm : SRows w b m) (he : l.map Prod.fst = m.map Prod.fst) (hn : l.length ≤ 1048576) (hq : ∀ x ∈ l, x.1.pits.length ≤ maxLen) :
    Calls Try.prog 79 #[.slice a l.length c, .slice b m.length d] w fun e w' => e = .returned (.bool true) ∧ Below w.heap.size w w' := by
  have hlm : m.length = l.length := by have := congrArg List.length he; simpa using this.symm
  have HLM := Lib.hid hlm
  have HL := Lib.hid hl
  have HM := Lib.hid hm
  have HE := Lib.hid he
  have HQ := Lib.hid hq
  rw [hlm]
  clear hl hm he hq hlm
  go_enter Try.func79, Try.ntmps79
  go_wp2_with fail
  go_loopw [5] (fun i wr => ∃ (j : Nat), i = .int .i64 j ∧ j ≤ l.length ∧ Hid (Below w.heap.size w wr)) (fun i _ => l.length - (intOf i).toNat)
  case atStart => exact ⟨0, rfl, Nat.zero_le _, Lib.hid (Below.refl _ _)⟩
  case round =>
    obtain ⟨j, rfl, hj, HB⟩ := hrel
    by_cases hlt : j < l.length
    · have hlt' : j < m.length := by have := HLM.out; omega
      obtain ⟨ab, ao, ha, hab, hA⟩ := (HL.out.below HB.out (Nat.le_refl _)).at (k := j) (x := l[j]) (by simp [hlt])
      obtain ⟨bb, bo, hb, hbb, hB⟩ := (HM.out.below HB.out (Nat.le_refl _)).at (k := j) (x := (l[j].1, m[j].2)) (by rw [← sl_get HE.out hlt hlt']; simp [hlt'])
      subst ha hb
      have HI := Lib.hid ((HL.out.items l[j] (List.getElem_mem hlt)).below HB.out (Nat.le_refl _))
      have HJ := Lib.hid ((HM.out.items m[j] (List.getElem_mem hlt')).below HB.out (Nat.le_refl _))
      rw [sl_get HE.out hlt hlt'] at HJ
      have HN := Lib.hid (HQ.out l[j] (List.getElem_mem hlt))
      obtain ⟨y, hy⟩ : ∃ y, y = l[j] := ⟨_, rfl⟩
      obtain ⟨M, hM⟩ : ∃ y, y = m[j].2 := ⟨_, rfl⟩
      rw [← hy] at hA hB HI HJ HN
      rw [← hM] at hB HJ
      clear hy hM
      obtain ⟨x, KX⟩ := y
      dsimp only at hA hB HI HJ HN
      have HAB : Hid (∀ W, Below wr.heap.size wr W → (W.cell? ⟨ab, ao + j * 6, none⟩ = some (.bool x.used) ∧ W.cell? ⟨ab, ao + j * 6 + 1, none⟩ = some (.slice KX.qa x.pits.length KX.qc) ∧ W.cell? ⟨ab, ao + j * 6 + 2, none⟩ = some (.int .i64 x.player) ∧ W.cell? ⟨ab, ao + j * 6 + 3, none⟩ = some (.int .i64 x.depth) ∧ W.cell? ⟨ab, ao + j * 6 + 4, none⟩ = some (.int .i64 x.value) ∧ W.cell? ⟨ab, ao + j * 6 + 5, none⟩ = some (.int .i64 x.bound)) ∧ (W.cell? ⟨bb, bo + j * 6, none⟩ = some (.bool x.used) ∧ W.cell? ⟨bb, bo + j * 6 + 1, none⟩ = some (.slice M.qa x.pits.length M.qc) ∧ W.cell? ⟨bb, bo + j * 6 + 2, none⟩ = some (.int .i64 x.player) ∧ W.cell? ⟨bb, bo + j * 6 + 3, none⟩ = some (.int .i64 x.depth) ∧ W.cell? ⟨bb, bo + j * 6 + 4, none⟩ = some (.int .i64 x.value) ∧ W.cell? ⟨bb, bo + j * 6 + 5, none⟩ = some (.int .i64 x.bound))) := fun W hW => by
        have hc := (bcell hW).1
        exact ⟨⟨(hc _ _ hab).trans hA.1, (hc _ _ hab).trans hA.2.1, (hc _ _ hab).trans hA.2.2.1, (hc _ _ hab).trans hA.2.2.2.1, (hc _ _ hab).trans hA.2.2.2.2.1, (hc _ _ hab).trans hA.2.2.2.2.2⟩, ⟨(hc _ _ hbb).trans hB.1, (hc _ _ hbb).trans hB.2.1, (hc _ _ hbb).trans hB.2.2.1, (hc _ _ hbb).trans hB.2.2.2.1, (hc _ _ hbb).trans hB.2.2.2.2.1, (hc _ _ hbb).trans hB.2.2.2.2.2⟩⟩
      go_upto_region 6 with fail
      refine heldH (S := fun W => (W.cell? ⟨ab, ao + j * 6, none⟩ = some (.bool x.used) ∧ W.cell? ⟨ab, ao + j * 6 + 1, none⟩ = some (.slice KX.qa x.pits.length KX.qc) ∧ W.cell? ⟨ab, ao + j * 6 + 2, none⟩ = some (.int .i64 x.player) ∧ W.cell? ⟨ab, ao + j * 6 + 3, none⟩ = some (.int .i64 x.depth) ∧ W.cell? ⟨ab, ao + j * 6 + 4, none⟩ = some (.int .i64 x.value) ∧ W.cell? ⟨ab, ao + j * 6 + 5, none⟩ = some (.int .i64 x.bound)) ∧ (W.cell? ⟨bb, bo + j * 6, none⟩ = some (.bool x.used) ∧ W.cell? ⟨bb, bo + j * 6 + 1, none⟩ = some (.slice M.qa x.pits.length M.qc) ∧ W.cell? ⟨bb, bo + j * 6 + 2, none⟩ = some (.int .i64 x.player) ∧ W.cell? ⟨bb, bo + j * 6 + 3, none⟩ = some (.int .i64 x.depth) ∧ W.cell? ⟨bb, bo + j * 6 + 4, none⟩ = some (.int .i64 x.value) ∧ W.cell? ⟨bb, bo + j * 6 + 5, none⟩ = some (.int .i64 x.bound))) (n := 10) (listed := #[false, false, false, false, false, false, false, false, false, false]) (by kernel_rfl) (by rfl) (by rfl) ?_ (fun hHeld => ?_)
      (focus ((try dsimp only); (first | done | ((first | exact HAB.out _ HB2.out | exact HAB.out _ (Below.refl _ _).drew); done))))
      (refine takeH (i := 0) (v := ?_) (by decide +kernel) (by decide +kernel) (by kernel_rfl) (by rfl) (by exact fun _ _ _ h => h) (by rfl) ?_ (by assumption) ?_); rotate_left; (focus (intro w hSw; (try dsimp only at hSw); go_simp; (try with_reducible rfl); done)); (try simp only [Act.put, List.setIfInBounds_toArray, List.set_cons_zero, List.set_cons_succ])
      (refine takeH (i := 1) (v := ?_) (by decide +kernel) (by decide +kernel) (by kernel_rfl) (by rfl) (by exact fun _ _ _ h => h) (by rfl) ?_ (by assumption) ?_); rotate_left; (focus (intro w hSw; (try dsimp only at hSw); go_simp; (try with_reducible rfl); done)); (try simp only [Act.put, List.setIfInBounds_toArray, List.set_cons_zero, List.set_cons_succ])
      (refine takeH (i := 2) (v := ?_) (by decide +kernel) (by decide +kernel) (by kernel_rfl) (by rfl) (by exact fun _ _ _ h => h) (by rfl) ?_ (by assumption) ?_); rotate_left; (focus (intro w hSw; (try dsimp only at hSw); go_simp; (try with_reducible rfl); done)); (try simp only [Act.put, List.setIfInBounds_toArray, List.set_cons_zero, List.set_cons_succ])
      (refine takeH (i := 3) (v := ?_) (by decide +kernel) (by decide +kernel) (by kernel_rfl) (by rfl) (by exact fun _ _ _ h => h) (by rfl) ?_ (by assumption) ?_); rotate_left; (focus (intro w hSw; (try dsimp only at hSw); go_simp; (try with_reducible rfl); done)); (try simp only [Act.put, List.setIfInBounds_toArray, List.set_cons_zero, List.set_cons_succ])
      (refine takeH (i := 4) (v := ?_) (by decide +kernel) (by decide +kernel) (by kernel_rfl) (by rfl) (by exact fun _ _ _ h => h) (by rfl) ?_ (by assumption) ?_); rotate_left; (focus (intro w hSw; (try dsimp only at hSw); go_simp; (try with_reducible rfl); done)); (try simp only [Act.put, List.setIfInBounds_toArray, List.set_cons_zero, List.set_cons_succ])
      (refine takeH (i := 5) (v := ?_) (by decide +kernel) (by decide +kernel) (by kernel_rfl) (by rfl) (by exact fun _ _ _ h => h) (by rfl) ?_ (by assumption) ?_); rotate_left; (focus (intro w hSw; (try dsimp only at hSw); go_simp; (try with_reducible rfl); done)); (try simp only [Act.put, List.setIfInBounds_toArray, List.set_cons_zero, List.set_cons_succ])
      (refine takeH (i := 6) (v := ?_) (by decide +kernel) (by decide +kernel) (by kernel_rfl) (by rfl) (by exact fun _ _ _ h => h) (by rfl) ?_ (by assumption) ?_); rotate_left; (focus (intro w hSw; (try dsimp only at hSw); go_simp; (try with_reducible rfl); done)); (try simp only [Act.put, List.setIfInBounds_toArray, List.set_cons_zero, List.set_cons_succ])
      (refine takeH (i := 7) (v := ?_) (by decide +kernel) (by decide +kernel) (by kernel_rfl) (by rfl) (by exact fun _ _ _ h => h) (by rfl) ?_ (by assumption) ?_); rotate_left; (focus (intro w hSw; (try dsimp only at hSw); go_simp; (try with_reducible rfl); done)); (try simp only [Act.put, List.setIfInBounds_toArray, List.set_cons_zero, List.set_cons_succ])
      refine nextH (i := 8) (by decide +kernel) (by rfl) (by rfl) (fun K hK => ?_)
      go_simp
      (go_at_call 130; (refine (eqSlot_c x KX M _ (HI.out.below (Below.refl _ _).drew (Nat.le_refl _)) (HJ.out.below (Below.refl _ _).drew (Nat.le_refl _)) HN.out).mono ?_); (rintro e w2 ⟨rfl, hb2⟩); (have HB2 := Lib.hid (below_next (Below.refl wr.heap.size wr).drew hb2)))
      refine hK.out _ _ ?_ (fun hHeld' => ?_)
      (focus ((try dsimp only); (first | done | ((first | exact HAB.out _ HB2.out | exact HAB.out _ (Below.refl _ _).drew); done))))
      clear hK K hHeld
      have hHeld := hHeld'
      clear hHeld'
      (try simp only [Act.put, List.setIfInBounds_toArray, List.set_cons_zero, List.set_cons_succ])
      (refine takeH (i := 9) (v := ?_) (by decide +kernel) (by decide +kernel) (by kernel_rfl) (by rfl) (by exact fun _ _ _ h => h) (by rfl) ?_ (by assumption) ?_); rotate_left; (focus (intro w hSw; (try dsimp only at hSw); go_simp; (try with_reducible rfl); done)); (try simp only [Act.put, List.setIfInBounds_toArray, List.set_cons_zero, List.set_cons_succ])
      refine wpAnyH_done (by decide +kernel) ?_ _
      have HB3 := Lib.hid (below_next HB.out HB2.out)
      clear hHeld hb2 HB HAB hA hB HB2 HI HJ
      go_wp2
      go_roundw
      case rel => exact ⟨j + 1, by go_num, by omega, HB3⟩
      case measure => simp [intOf]; omega
    · go_wp2
      go_ret
      exact ⟨rfl, HB.out⟩

/-! ### marked -/
def mkSl (x : Sl × SA) (k : Int) : Sl × SA := (⟨k % 3 == 0, marks (k + 1) x.1.pits.length, k + 1 + x.1.pits.length, k + 1 + x.1.pits.length + 1, k + 1 + x.1.pits.length + 1 + 1, k + 1 + x.1.pits.length + 1 + 1 + 1⟩, x.2)
def szSl (x : Sl × SA) : Int := 5 + x.1.pits.length
theorem szSl_pos (x : Sl × SA) : 0 ≤ szSl x := by unfold szSl; omega
set_option maxRecDepth 100000 in
set_option maxHeartbeats 8000000 in
theorem markSlotS_c (lo hi : Nat) (ad : Option Addr) (c : Nat) (l : List (Sl × SA)) (k : Int) (w : World) (h : PcsP lo hi (slRL.pcs ad c l) w) (hn : l.length ≤ 1048576) (hk : 0 ≤ k) (hk' : k + mkSum szSl l ≤ 1099511627776) :
    Calls Try.prog 80 #[.slice ad l.length c, .int .i64 k] w fun e w' => e = .returned (.int .i64 (k + mkSum szSl l)) ∧ PcsP lo hi (slRL.pcs ad c (mkGo mkSl szSl l k)) w' ∧ Chg lo hi w w' := by
  have HH := Lib.hid h
  clear h
  go_enter Try.func80, Try.ntmps80
  go_wp2
  go_loopw [1, 5] (fun q i wr => ∃ j : Nat, j ≤ l.length ∧ i = .int .i64 j ∧ q = .int .i64 (mkAt szSl l k j) ∧ Hid (PcsP lo hi (slRL.pcs ad c (mkd mkSl szSl l k j)) wr ∧ Chg lo hi w wr)) (fun _ i _ => l.length - (intOf i).toNat)
  case atStart => exact ⟨0, Nat.zero_le _, rfl, by rw [mkAt_zero], by unfold Hid; rw [mkd_zero]; exact ⟨HH.out, Chg.refl _ _ _⟩⟩
  case round =>
    obtain ⟨j, hj, rfl, rfl, HST⟩ := hrel
    clear HH
    by_cases hlt : j < l.length
    · have hx0 : l[j]? = some l[j] := List.getElem?_eq_getElem hlt
      have hx1 : (mkd mkSl szSl l k j)[j]? = some l[j] := by rw [mkd_get mkSl szSl k hlt]; exact hx0
      have HN : Hid (mkAt szSl l k (j + 1) = mkAt szSl l k j + szSl l[j]) := mkAt_succ szSl k hx0
      have HS : Hid ((mkd mkSl szSl l k j).set j (mkSl l[j] (mkAt szSl l k j)) = mkd mkSl szSl l k (j + 1)) := mkd_set mkSl szSl k hx0
      have hb1 := mkAt_le szSl szSl_pos l k j
      have hb2 := mkAt_le szSl szSl_pos l k (j + 1)
      have HLL : Hid ((mkd mkSl szSl l k j).length = l.length) := mkd_len mkSl szSl l k j
      rw [HN.out] at hb2
      obtain ⟨y, hy⟩ : ∃ y, y = l[j] := ⟨_, rfl⟩
      obtain ⟨K, hK⟩ : ∃ K, K = mkAt szSl l k j := ⟨_, rfl⟩
      obtain ⟨L, hL⟩ : ∃ L, L = mkd mkSl szSl l k j := ⟨_, rfl⟩
      rw [← hK] at HN HS hb1 hb2 ⊢
      rw [← hy] at HN HS hx1 hb2
      rw [← hL] at HS hx1 HST HLL
      clear hy hK hL hx0
      obtain ⟨x, A⟩ := y
      simp only [szSl] at hb2
      obtain ⟨h0, hC0⟩ := HST.out
      obtain ⟨g, hg, hg1, hg2⟩ := RL.at h0 (by have := HLL.out; omega)
      subst hg
      obtain ⟨q0, f0⟩ : _ ∧ _ := RL.cell h0 hx1 (i := 0) (by decide) rfl
      obtain ⟨q1, f1⟩ : _ ∧ _ := RL.cell h0 hx1 (i := 1) (by decide) rfl
      have HL0 := HLL.out
      obtain ⟨h1, hC1⟩ := RL.setField h0 hx1 (i := 0) (v := .bool (K % 3 == 0)) (x' := (⟨K % 3 == 0, x.pits, x.player, x.depth, x.value, x.bound⟩, A)) (by decide) rfl rfl
      have hx2 : (L.set j (⟨K % 3 == 0, x.pits, x.player, x.depth, x.value, x.bound⟩, A))[j]? = some (⟨K % 3 == 0, x.pits, x.player, x.depth, x.value, x.bound⟩, A) := List.getElem?_set_self (by omega)
      have hc1 := hC0.trans hC1
      simp only [show slRL.n = 6 from rfl, Nat.add_zero] at q0 q1 f0 f1 h1 hc1
      have HH1 := Lib.hid (And.intro h1 hc1)
      have HX2 := Lib.hid hx2
      have hx3 : (L.set j (⟨K % 3 == 0, marks (K + 1) x.pits.length, x.player, x.depth, x.value, x.bound⟩, A))[j]? = some (⟨K % 3 == 0, marks (K + 1) x.pits.length, x.player, x.depth, x.value, x.bound⟩, A) := List.getElem?_set_self (by omega)
      have hx4 : (L.set j (⟨K % 3 == 0, marks (K + 1) x.pits.length, K + 1 + x.pits.length, x.depth, x.value, x.bound⟩, A))[j]? = some (⟨K % 3 == 0, marks (K + 1) x.pits.length, K + 1 + x.pits.length, x.depth, x.value, x.bound⟩, A) := List.getElem?_set_self (by omega)
      have hx5 : (L.set j (⟨K % 3 == 0, marks (K + 1) x.pits.length, K + 1 + x.pits.length, K + 1 + x.pits.length + 1, x.value, x.bound⟩, A))[j]? = some (⟨K % 3 == 0, marks (K + 1) x.pits.length, K + 1 + x.pits.length, K + 1 + x.pits.length + 1, x.value, x.bound⟩, A) := List.getElem?_set_self (by omega)
      have hx6 : (L.set j (⟨K % 3 == 0, marks (K + 1) x.pits.length, K + 1 + x.pits.length, K + 1 + x.pits.length + 1, K + 1 + x.pits.length + 1 + 1, x.bound⟩, A))[j]? = some (⟨K % 3 == 0, marks (K + 1) x.pits.length, K + 1 + x.pits.length, K + 1 + x.pits.length + 1, K + 1 + x.pits.length + 1 + 1, x.bound⟩, A) := List.getElem?_set_self (by omega)
      have HX3 := Lib.hid hx3
      have HX4 := Lib.hid hx4
      have HX5 := Lib.hid hx5
      have HX6 := Lib.hid hx6
      clear h0 h1 hC0 hC1 hc1 HST hx1 hx2 hx3 hx4 hx5 hx6 HL0
      go_wp2_with fail
      refine (markInt64S_c lo A.qa x.pits.length A.qc x.pits (K + 1) _ (RL.row HH1.out.1 (List.mem_of_getElem? HX2.out) (List.mem_cons_self ..)) (by omega) (by omega)).mono ?_
      rintro e w4 ⟨rfl, ho4, hg4⟩
      obtain ⟨h4, hC4⟩ := RL.setRow HH1.out.1 HX2.out (i := 0) (q := pieceI A.qa A.qc x.pits) (q' := ⟨2, 1, .slice A.qa x.pits.length A.qc, x.pits.length, (marks (K + 1) x.pits.length).map (Value.int .i64)⟩) (x' := (⟨K % 3 == 0, marks (K + 1) x.pits.length, x.player, x.depth, x.value, x.bound⟩, A)) (by decide) rfl hg4 ho4 rfl (by simp [slRL, pieceI, marks_length]) (by simp [slRL, Sl.cells, marks_length])
      rw [List.set_set] at h4
      obtain ⟨q2, f2⟩ : _ ∧ _ := RL.cell h4 HX3.out (i := 2) (by decide) rfl
      obtain ⟨q3, f3⟩ : _ ∧ _ := RL.cell h4 HX3.out (i := 3) (by decide) rfl
      obtain ⟨q4, f4⟩ : _ ∧ _ := RL.cell h4 HX3.out (i := 4) (by decide) rfl
      obtain ⟨q5, f5⟩ : _ ∧ _ := RL.cell h4 HX3.out (i := 5) (by decide) rfl
      have gf := fun o => (RL.main h4).frozenAt o
      obtain ⟨h5, hC5⟩ := RL.setField h4 HX3.out (i := 2) (v := .int .i64 (K + 1 + x.pits.length)) (x' := (⟨K % 3 == 0, marks (K + 1) x.pits.length, K + 1 + x.pits.length, x.depth, x.value, x.bound⟩, A)) (by decide) rfl rfl
      rw [List.set_set] at h5
      obtain ⟨h6, hC6⟩ := RL.setField h5 HX4.out (i := 3) (v := .int .i64 (K + 1 + x.pits.length + 1)) (x' := (⟨K % 3 == 0, marks (K + 1) x.pits.length, K + 1 + x.pits.length, K + 1 + x.pits.length + 1, x.value, x.bound⟩, A)) (by decide) rfl rfl
      rw [List.set_set] at h6
      obtain ⟨h7, hC7⟩ := RL.setField h6 HX5.out (i := 4) (v := .int .i64 (K + 1 + x.pits.length + 1 + 1)) (x' := (⟨K % 3 == 0, marks (K + 1) x.pits.length, K + 1 + x.pits.length, K + 1 + x.pits.length + 1, K + 1 + x.pits.length + 1 + 1, x.bound⟩, A)) (by decide) rfl rfl
      rw [List.set_set] at h7
      obtain ⟨h8, hC8⟩ := RL.setField h7 HX6.out (i := 5) (v := .int .i64 (K + 1 + x.pits.length + 1 + 1 + 1)) (x' := (⟨K % 3 == 0, marks (K + 1) x.pits.length, K + 1 + x.pits.length, K + 1 + x.pits.length + 1, K + 1 + x.pits.length + 1 + 1, K + 1 + x.pits.length + 1 + 1 + 1⟩, A)) (by decide) rfl rfl
      rw [List.set_set] at h8
      have HS8 : Hid (L.set j (⟨K % 3 == 0, marks (K + 1) x.pits.length, K + 1 + x.pits.length, K + 1 + x.pits.length + 1, K + 1 + x.pits.length + 1 + 1, K + 1 + x.pits.length + 1 + 1 + 1⟩, A) = mkd mkSl szSl l k (j + 1)) := HS.out
      rw [HS8.out] at h8
      have hcz := ((((HH1.out.2.trans hC4).trans hC5).trans hC6).trans hC7).trans hC8
      simp only [show slRL.n = 6 from rfl] at q2 q3 q4 q5 f2 f3 f4 f5 h8 hcz
      have HH8 := Lib.hid (And.intro h8 hcz)
      clear h4 h5 h6 h7 h8 hC4 hC5 hC6 hC7 hC8 hcz ho4 hg4 HH1 HX2 HX3 HX4 HX5 HX6 HS HS8 q0 q1 f0 f1
      have HNE : Hid (mkAt szSl l k (j + 1) = K + 1 + x.pits.length + 1 + 1 + 1 + 1) := by
        have := HN.out
        unfold Hid
        rw [this]
        simp only [szSl]
        omega
      clear HN
      go_wp2
      go_roundw
      case rel => exact ⟨j + 1, by omega, by go_num, by rw [HNE.out], HH8⟩
      case measure => simp [intOf]; omega
    · obtain rfl : j = l.length := by omega
      have := HST.out
      rw [mkd_all] at this
      have HR := Lib.hid this
      clear this HST
      rw [mkAt_all]
      go_wp2
      go_ret
      exact ⟨rfl, HR.out.1, HR.out.2⟩

set_option maxRecDepth 100000 in
set_option maxHeartbeats 8000000 in
theorem heldSlotS_c (a : Option Addr) (c : Nat) (l : List (Sl × SA)) (k : Int) (w : World) (h : SRows w a (mkGo mkSl szSl l k)) (hn : l.length ≤ 1048576) (hk : 0 ≤ k) (hk' : k + mkSum szSl l ≤ 1099511627776) :
    Calls Try.prog 81 #[.slice a l.length c, .int .i64 k] w fun e w' => e = .returned (.int .i64 (k + mkSum szSl l)) ∧ w = w' := by
  have HH := Lib.hid h
  clear h
  go_enter Try.func81, Try.ntmps81
  go_wp2
  go_loop [1, 5] (fun q i => ∃ j : Nat, j ≤ l.length ∧ i = .int .i64 j ∧ q = .int .i64 (mkAt szSl l k j)) (fun _ i => l.length - (intOf i).toNat)
  case atStart => exact ⟨0, Nat.zero_le _, rfl, by rw [mkAt_zero]⟩
  case round =>
    obtain ⟨j, hj, rfl, rfl⟩ := hrel
    by_cases hlt : j < l.length
    · have hx0 : l[j]? = some l[j] := List.getElem?_eq_getElem hlt
      have hx1 : (mkGo mkSl szSl l k)[j]? = some (mkSl l[j] (mkAt szSl l k j)) := mkGo_get mkSl szSl k hx0
      have HN : Hid (mkAt szSl l k (j + 1) = mkAt szSl l k j + szSl l[j]) := mkAt_succ szSl k hx0
      have hb1 := mkAt_le szSl szSl_pos l k j
      have hb2 := mkAt_le szSl szSl_pos l k (j + 1)
      rw [HN.out] at hb2
      obtain ⟨y, hy⟩ : ∃ y, y = l[j] := ⟨_, rfl⟩
      obtain ⟨K, hK⟩ : ∃ K, K = mkAt szSl l k j := ⟨_, rfl⟩
      rw [← hK] at HN hx1 hb1 hb2 ⊢
      rw [← hy] at HN hx1 hb2
      clear hy hK hx0
      obtain ⟨x, A⟩ := y
      simp only [szSl] at hb2
      obtain ⟨b, off, ha, hb, q0, q1, q2, q3, q4, q5⟩ := HH.out.at hx1
      have hr1 := HH.out.items _ (List.mem_of_getElem? hx1)
      subst ha
      simp only [mkSl, marks_length] at q0 q1 q2 q3 q4 q5 hr1
      have HR1 := Lib.hid hr1
      have HNE : Hid (mkAt szSl l k (j + 1) = K + 1 + x.pits.length + 1 + 1 + 1 + 1) := by
        have := HN.out
        unfold Hid
        rw [this]
        simp only [szSl]
        omega
      clear hr1 hx1 HN
      have n1 : ¬ K + 1 + x.pits.length < 0 := by omega
      go_wp2_with fail
      refine (heldInt64S_c A.qa x.pits.length A.qc (K + 1) _ HR1.out (by omega) (by omega)).mono ?_
      rintro e w1 ⟨rfl, rfl⟩
      go_wp2
      go_round
      case rel => exact ⟨j + 1, by omega, by go_num, by rw [HNE.out]⟩
      case measure => simp [intOf]; omega
    · obtain rfl : j = l.length := by omega
      rw [mkAt_all]
      go_wp2
      go_ret
      exact ⟨rfl, rfl⟩

end Go.Proofs.Ytbjgigdkbjabaaa
