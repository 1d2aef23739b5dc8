/- MemG: a slot is stored in a memory: both sides. Each contract holds for every argument, under the premises that it states. -/
import Derived.Test.YtbjgigdkbjabaaaMemF
namespace Go.Proofs.Ytbjgigdkbjabaaa
set_option linter.unusedSimpArgs false
set_option linter.unusedVariables false
set_option linter.unnecessarySimpa false
open Go.RowKit Go.ChangeShapes Go.WideShapes Go.ChangeAt Go.Joins

/-! ### in plain terms -/
def storeL (xs : List Sl) (x : Sl) : List Sl :=
  if (xs.getD (hashP x.pits x.player xs.length).toNat Sl.nil).used = true ∧ x.depth < (xs.getD (hashP x.pits x.player xs.length).toNat Sl.nil).depth then xs else xs.set (hashP x.pits x.player xs.length).toNat x
theorem storeL_len (xs : List Sl) (x : Sl) : (storeL xs x).length = xs.length := by
  unfold storeL
  split <;> simp
theorem hashP_at {pits : List Int} {pl : Int} {n : Nat} (hp : 0 ≤ pl ∧ pl ≤ 1) (hb : ∀ x ∈ pits, 0 ≤ x ∧ x ≤ 96) (hn : 1 ≤ n) : ∃ k : Nat, hashP pits pl n = (k : Int) ∧ k < n := by
  obtain ⟨h0, h1⟩ := hashGo_bd pits (pl + 1) (by omega) (by omega) (fun x hx => (hb x hx).1)
  have h2 := Int.emod_nonneg (hashGo pits (pl + 1)) (show (n : Int) ≠ 0 by omega)
  have h3 := Int.emod_lt_of_pos (hashGo pits (pl + 1)) (show (0 : Int) < n by omega)
  refine ⟨(hashP pits pl n).toNat, ?_, ?_⟩
  · unfold hashP; omega
  · unfold hashP; omega
/-- what a store leaves -/
def StPost (w : World) (base g c : Nat) (ys : List Sl) (e : Ending) (w' : World) : Prop := e = .returned (.tuple #[]) ∧ ∃ m' : List (Sl × SA), m'.map Prod.fst = ys ∧ Pcs w' base (slRL.pcs (some ⟨g, 0, none⟩) c m') ∧ Chg g (g + 1) w w'
theorem store_keep {w w' : World} {base g c k : Nat} {m : List (Sl × SA)} {x o : Sl} {oA : SA} (hp : Pcs w base (slRL.pcs (some ⟨g, 0, none⟩) c m)) (hk : hashP x.pits x.player m.length = (k : Int)) (hx : m[k]? = some (o, oA)) (h1 : o.used = true) (h2 : x.depth < o.depth) (hb : Below w.heap.size w w') :
    ∃ m' : List (Sl × SA), m'.map Prod.fst = storeL (m.map Prod.fst) x ∧ Pcs w' base (slRL.pcs (some ⟨g, 0, none⟩) c m') ∧ Chg g (g + 1) w w' := by
  refine ⟨m, ?_, pcs_below hp hb, Chg.ofBelow hb⟩
  unfold storeL
  have e : (m.map Prod.fst).getD (hashP x.pits x.player (m.map Prod.fst).length).toNat Sl.nil = o := by
    rw [List.length_map, hk, Int.toNat_natCast, List.getD_eq_getElem?_getD, List.getElem?_map, hx]
    rfl
  rw [if_pos (by rw [e]; exact ⟨h1, h2⟩)]
theorem store_put {w w2 : World} {base g c k : Nat} {m : List (Sl × SA)} {x o : Sl} {oA A : SA} (hp : Pcs w base (slRL.pcs (some ⟨g, 0, none⟩) c m)) (hk : hashP x.pits x.player m.length = (k : Int)) (hx : m[k]? = some (o, oA)) (h : ¬ (o.used = true ∧ x.depth < o.depth)) (hb : Below w.heap.size w w2) (ho : OwnI w2 w.heap.size A.qa A.qc x.pits) :
    ∃ m' : List (Sl × SA), m'.map Prod.fst = storeL (m.map Prod.fst) x ∧ Pcs ((((((w2.setCell ⟨g, k * 6, none⟩ (.bool x.used)).setCell ⟨g, k * 6 + 1, none⟩ (.slice A.qa x.pits.length A.qc)).setCell ⟨g, k * 6 + 2, none⟩ (.int .i64 x.player)).setCell ⟨g, k * 6 + 3, none⟩ (.int .i64 x.depth)).setCell ⟨g, k * 6 + 4, none⟩ (.int .i64 x.value)).setCell ⟨g, k * 6 + 5, none⟩ (.int .i64 x.bound)) base (slRL.pcs (some ⟨g, 0, none⟩) c m') ∧
      Chg g (g + 1) w ((((((w2.setCell ⟨g, k * 6, none⟩ (.bool x.used)).setCell ⟨g, k * 6 + 1, none⟩ (.slice A.qa x.pits.length A.qc)).setCell ⟨g, k * 6 + 2, none⟩ (.int .i64 x.player)).setCell ⟨g, k * 6 + 3, none⟩ (.int .i64 x.depth)).setCell ⟨g, k * 6 + 4, none⟩ (.int .i64 x.value)).setCell ⟨g, k * 6 + 5, none⟩ (.int .i64 x.bound)) := by
  have hkm : k < m.length := (List.getElem?_eq_some_iff.1 hx).1
  refine ⟨m.set k (x, A), ?_, pcs_put hp hb hkm x A ho, (Chg.ofBelow hb).trans ((((((chg_set w2 g _ _).trans (chg_set _ g _ _)).trans (chg_set _ g _ _)).trans (chg_set _ g _ _)).trans (chg_set _ g _ _)).trans (chg_set _ g _ _))⟩
  unfold storeL
  have e : (m.map Prod.fst).getD (hashP x.pits x.player (m.map Prod.fst).length).toNat Sl.nil = o := by
    rw [List.length_map, hk, Int.toNat_natCast, List.getD_eq_getElem?_getD, List.getElem?_map, hx]
    rfl
  rw [if_neg (by rw [e]; exact h), List.map_set, List.length_map, hk, Int.toNat_natCast]

set_option maxRecDepth 100000 in
set_option maxHeartbeats 8000000 in
theorem l16Store_c (mb mo xb xo : Nat) (m : List (Sl × SA)) (g c base : Nat) (x : Sl) (ka : SA) (w : World) (h9 : w.cell? ⟨mb, mo + 9, none⟩ = some (.slice (some ⟨g, 0, none⟩) m.length c)) (hmg : ¬ mb = g) (hp : Pcs w base (slRL.pcs (some ⟨g, 0, none⟩) c m)) (hl : 1 ≤ m.length ∧ m.length ≤ 64)
    (hcs : (w.cell? ⟨xb, xo, none⟩ = some (.bool x.used) ∧ w.cell? ⟨xb, xo + 1, none⟩ = some (.slice ka.qa x.pits.length ka.qc) ∧ w.cell? ⟨xb, xo + 2, none⟩ = some (.int .i64 x.player) ∧ w.cell? ⟨xb, xo + 3, none⟩ = some (.int .i64 x.depth) ∧ w.cell? ⟨xb, xo + 4, none⟩ = some (.int .i64 x.value) ∧ w.cell? ⟨xb, xo + 5, none⟩ = some (.int .i64 x.bound))) (hxg : ¬ xb = g) (hit : Ints w ka.qa x.pits) (hxm : x.pits.length ≤ 1048576) (hpl : 0 ≤ x.player ∧ x.player ≤ 1) (hb : ∀ z ∈ x.pits, 0 ≤ z ∧ z ≤ 96) :
    Calls Try.prog 82 #[.pointer (some ⟨mb, mo, none⟩), .pointer (some ⟨xb, xo, none⟩)] w (StPost w base g c (storeL (m.map Prod.fst) x)) := by
  obtain ⟨k, hk, hkn⟩ := hashP_at hpl hb hl.1
  have hmb : mb < w.heap.size := World.block_lt_of_cell? w _ h9
  have hxb : xb < w.heap.size := World.block_lt_of_cell? w _ hcs.1
  have hx0 : m[k]? = some m[k] := List.getElem?_eq_getElem hkn
  obtain ⟨⟨o, oA⟩, ho⟩ : ∃ o, o = m[k] := ⟨_, rfl⟩
  rw [← ho] at hx0
  clear ho
  have hpp := hp.mk'
  obtain ⟨n, hn⟩ : ∃ n, n = m.length := ⟨_, rfl⟩
  have HPC := Lib.hid hp
  have HK : Hid (hashP x.pits x.player m.length = (k : Int)) := hk
  have HX0 := Lib.hid hx0
  have HHC := Lib.hid (l16Hash_c x.pits x.player m.length ka.qa ka.qc w.drew (show Ints w.drew ka.qa x.pits from hit) hxm hpl hb hl)
  rw [hk, ← hn] at HHC
  have hkn' : k < n := by omega
  have hkI : (k : Int) < (n : Int) := by omega
  obtain ⟨q0, f0⟩ : _ ∧ _ := RL.cell hpp hx0 (i := 0) (by decide) rfl
  obtain ⟨q1, f1⟩ : _ ∧ _ := RL.cell hpp hx0 (i := 1) (by decide) rfl
  obtain ⟨q2, f2⟩ : _ ∧ _ := RL.cell hpp hx0 (i := 2) (by decide) rfl
  obtain ⟨q3, f3⟩ : _ ∧ _ := RL.cell hpp hx0 (i := 3) (by decide) rfl
  obtain ⟨q4, f4⟩ : _ ∧ _ := RL.cell hpp hx0 (i := 4) (by decide) rfl
  obtain ⟨q5, f5⟩ : _ ∧ _ := RL.cell hpp hx0 (i := 5) (by decide) rfl
  simp only [show slRL.n = 6 from rfl, Nat.add_zero] at q0 f0 q1 f1 q2 f2 q3 f3 q4 f4 q5 f5
  have gf := fun o => (RL.main hpp).frozenAt o
  have hgw : g < w.heap.size := World.block_lt_of_cell? w _ q0
  rw [← hn] at h9
  have HC : Hid (∀ W, Below w.heap.size w W → (W.cell? ⟨xb, xo, none⟩ = some (.bool x.used) ∧ W.cell? ⟨xb, xo + 1, none⟩ = some (.slice ka.qa x.pits.length ka.qc) ∧ W.cell? ⟨xb, xo + 2, none⟩ = some (.int .i64 x.player) ∧ W.cell? ⟨xb, xo + 3, none⟩ = some (.int .i64 x.depth) ∧ W.cell? ⟨xb, xo + 4, none⟩ = some (.int .i64 x.value) ∧ W.cell? ⟨xb, xo + 5, none⟩ = some (.int .i64 x.bound)) ∧ (W.cell? ⟨g, k * 6, none⟩ = some (.bool o.used) ∧ W.cell? ⟨g, k * 6 + 1, none⟩ = some (.slice oA.qa o.pits.length oA.qc) ∧ W.cell? ⟨g, k * 6 + 2, none⟩ = some (.int .i64 o.player) ∧ W.cell? ⟨g, k * 6 + 3, none⟩ = some (.int .i64 o.depth) ∧ W.cell? ⟨g, k * 6 + 4, none⟩ = some (.int .i64 o.value) ∧ W.cell? ⟨g, k * 6 + 5, none⟩ = some (.int .i64 o.bound)) ∧ W.cell? ⟨mb, mo + 9, none⟩ = some (.slice (some ⟨g, 0, none⟩) n c) ∧ (∀ o, W.frozen? ⟨g, o, none⟩ = false) ∧ Ints W ka.qa x.pits ∧ g < W.heap.size) := fun W hW => by
    have hc := (bcell hW).1
    exact ⟨⟨(hc _ _ hxb).trans hcs.1, (hc _ _ hxb).trans hcs.2.1, (hc _ _ hxb).trans hcs.2.2.1, (hc _ _ hxb).trans hcs.2.2.2.1, (hc _ _ hxb).trans hcs.2.2.2.2.1, (hc _ _ hxb).trans hcs.2.2.2.2.2⟩, ⟨(hc _ _ hgw).trans q0, (hc _ _ hgw).trans q1, (hc _ _ hgw).trans q2, (hc _ _ hgw).trans q3, (hc _ _ hgw).trans q4, (hc _ _ hgw).trans q5⟩, (hc _ _ hmb).trans h9, fun o => ((bcell hW).2 _ o hgw).trans (gf o), hit.below hW (Nat.le_refl _), by have := hW.size; omega⟩
  clear hpp hx0 hk hn hp hit hb hpl f0 f1 f2 f3 f4 f5
  have HCS := Lib.hid hcs
  have H9 := Lib.hid h9
  go_enter Try.func82, Try.ntmps82
  go_wp2_with fail
  refine heldH (S := fun V => (V.cell? ⟨xb, xo, none⟩ = some (.bool x.used) ∧ V.cell? ⟨xb, xo + 1, none⟩ = some (.slice ka.qa x.pits.length ka.qc) ∧ V.cell? ⟨xb, xo + 2, none⟩ = some (.int .i64 x.player) ∧ V.cell? ⟨xb, xo + 3, none⟩ = some (.int .i64 x.depth) ∧ V.cell? ⟨xb, xo + 4, none⟩ = some (.int .i64 x.value) ∧ V.cell? ⟨xb, xo + 5, none⟩ = some (.int .i64 x.bound)) ∧ V.cell? ⟨mb, mo + 9, none⟩ = some (.slice (some ⟨g, 0, none⟩) n c)) (n := 15) (listed := #[false, false, false, false, false, false, false, false, false, false, false, false, false, false, false]) (by kernel_rfl) (by rfl) (by rfl) ?_ (fun hHeld => ?_)
  (focus ((try dsimp only); (first | done | ((exact ⟨HCS.out, H9.out⟩); done))))
  (refine takeH (i := 0) (v := ?_) (by decide +kernel) (by decide +kernel) (by kernel_rfl) (by rfl) (by exact fun _ _ _ h => h) (by rfl) ?_ (by assumption) ?_); rotate_left; (focus (intro w hSw; (try dsimp only at hSw); go_simp; (try with_reducible rfl); done)); (try simp only [Act.put, List.setIfInBounds_toArray, List.set_cons_zero, List.set_cons_succ])
  (refine takeH (i := 1) (v := ?_) (by decide +kernel) (by decide +kernel) (by kernel_rfl) (by rfl) (by exact fun _ _ _ h => h) (by rfl) ?_ (by assumption) ?_); rotate_left; (focus (intro w hSw; (try dsimp only at hSw); go_simp; (try with_reducible rfl); done)); (try simp only [Act.put, List.setIfInBounds_toArray, List.set_cons_zero, List.set_cons_succ])
  (refine takeH (i := 2) (v := ?_) (by decide +kernel) (by decide +kernel) (by kernel_rfl) (by rfl) (by exact fun _ _ _ h => h) (by rfl) ?_ (by assumption) ?_); rotate_left; (focus (intro w hSw; (try dsimp only at hSw); go_simp; (try with_reducible rfl); done)); (try simp only [Act.put, List.setIfInBounds_toArray, List.set_cons_zero, List.set_cons_succ])
  (refine takeH (i := 3) (v := ?_) (by decide +kernel) (by decide +kernel) (by kernel_rfl) (by rfl) (by exact fun _ _ _ h => h) (by rfl) ?_ (by assumption) ?_); rotate_left; (focus (intro w hSw; (try dsimp only at hSw); go_simp; (try with_reducible rfl); done)); (try simp only [Act.put, List.setIfInBounds_toArray, List.set_cons_zero, List.set_cons_succ])
  (refine takeH (i := 4) (v := ?_) (by decide +kernel) (by decide +kernel) (by kernel_rfl) (by rfl) (by exact fun _ _ _ h => h) (by rfl) ?_ (by assumption) ?_); rotate_left; (focus (intro w hSw; (try dsimp only at hSw); go_simp; (try with_reducible rfl); done)); (try simp only [Act.put, List.setIfInBounds_toArray, List.set_cons_zero, List.set_cons_succ])
  (refine takeH (i := 5) (v := ?_) (by decide +kernel) (by decide +kernel) (by kernel_rfl) (by rfl) (by exact fun _ _ _ h => h) (by rfl) ?_ (by assumption) ?_); rotate_left; (focus (intro w hSw; (try dsimp only at hSw); go_simp; (try with_reducible rfl); done)); (try simp only [Act.put, List.setIfInBounds_toArray, List.set_cons_zero, List.set_cons_succ])
  (refine takeH (i := 6) (v := ?_) (by decide +kernel) (by decide +kernel) (by kernel_rfl) (by rfl) (by exact fun _ _ _ h => h) (by rfl) ?_ (by assumption) ?_); rotate_left; (focus (intro w hSw; (try dsimp only at hSw); go_simp; (try with_reducible rfl); done)); (try simp only [Act.put, List.setIfInBounds_toArray, List.set_cons_zero, List.set_cons_succ])
  (refine takeH (i := 7) (v := ?_) (by decide +kernel) (by decide +kernel) (by kernel_rfl) (by rfl) (by exact fun _ _ _ h => h) (by rfl) ?_ (by assumption) ?_); rotate_left; (focus (intro w hSw; (try dsimp only at hSw); go_simp; (try with_reducible rfl); done)); (try simp only [Act.put, List.setIfInBounds_toArray, List.set_cons_zero, List.set_cons_succ])
  (refine takeH (i := 8) (v := ?_) (by decide +kernel) (by decide +kernel) (by kernel_rfl) (by rfl) (by exact fun _ _ _ h => h) (by rfl) ?_ (by assumption) ?_); rotate_left; (focus (intro w hSw; (try dsimp only at hSw); go_simp; (try with_reducible rfl); done)); (try simp only [Act.put, List.setIfInBounds_toArray, List.set_cons_zero, List.set_cons_succ])
  (refine takeH (i := 9) (v := ?_) (by decide +kernel) (by decide +kernel) (by kernel_rfl) (by rfl) (by exact fun _ _ _ h => h) (by rfl) ?_ (by assumption) ?_); rotate_left; (focus (intro w hSw; (try dsimp only at hSw); go_simp; (try with_reducible rfl); done)); (try simp only [Act.put, List.setIfInBounds_toArray, List.set_cons_zero, List.set_cons_succ])
  (refine takeH (i := 10) (v := ?_) (by decide +kernel) (by decide +kernel) (by kernel_rfl) (by rfl) (by exact fun _ _ _ h => h) (by rfl) ?_ (by assumption) ?_); rotate_left; (focus (intro w hSw; (try dsimp only at hSw); go_simp; (try with_reducible rfl); done)); (try simp only [Act.put, List.setIfInBounds_toArray, List.set_cons_zero, List.set_cons_succ])
  (refine takeH (i := 11) (v := ?_) (by decide +kernel) (by decide +kernel) (by kernel_rfl) (by rfl) (by exact fun _ _ _ h => h) (by rfl) ?_ (by assumption) ?_); rotate_left; (focus (intro w hSw; (try dsimp only at hSw); go_simp; (try with_reducible rfl); done)); (try simp only [Act.put, List.setIfInBounds_toArray, List.set_cons_zero, List.set_cons_succ])
  (refine takeH (i := 12) (v := ?_) (by decide +kernel) (by decide +kernel) (by kernel_rfl) (by rfl) (by exact fun _ _ _ h => h) (by rfl) ?_ (by assumption) ?_); rotate_left; (focus (intro w hSw; (try dsimp only at hSw); go_simp; (try with_reducible rfl); done)); (try simp only [Act.put, List.setIfInBounds_toArray, List.set_cons_zero, List.set_cons_succ])
  refine nextH (i := 13) (by decide +kernel) (by rfl) (by rfl) (fun K hK => ?_)
  (go_simp; go_at_call 131; (refine HHC.out.mono ?_); (rintro e w7 ⟨rfl, rfl⟩))
  refine hK.out _ _ ?_ (fun hHeld' => ?_)
  (focus ((try dsimp only); (first | done | ((exact ⟨HCS.out, H9.out⟩); done))))
  clear hK K hHeld
  have hHeld := hHeld'
  clear hHeld'
  (try simp only [Act.put, List.setIfInBounds_toArray, List.set_cons_zero, List.set_cons_succ])
  (refine takeH (i := 14) (v := ?_) (by decide +kernel) (by decide +kernel) (by kernel_rfl) (by rfl) (by exact fun _ _ _ h => h) (by rfl) ?_ (by assumption) ?_); rotate_left; (focus (intro w hSw; (try dsimp only at hSw); go_simp; (try with_reducible rfl); done)); (try simp only [Act.put, List.setIfInBounds_toArray, List.set_cons_zero, List.set_cons_succ])
  refine wpAnyH_done (by decide +kernel) ?_ _
  clear hHeld
  go_upto_region 1 with fail
  obtain ⟨ou, op, opl, odp, ovl, obd⟩ := o
  simp only at q0 q1 q2 q3 q4 q5 HC
  cases ou
  case false =>
    have HQ0 : Hid ((w.cell? ⟨g, k * 6, none⟩ = some (.bool (Sl.mk false op opl odp ovl obd).used) ∧ w.cell? ⟨g, k * 6 + 1, none⟩ = some (.slice oA.qa (Sl.mk false op opl odp ovl obd).pits.length oA.qc) ∧ w.cell? ⟨g, k * 6 + 2, none⟩ = some (.int .i64 (Sl.mk false op opl odp ovl obd).player) ∧ w.cell? ⟨g, k * 6 + 3, none⟩ = some (.int .i64 (Sl.mk false op opl odp ovl obd).depth) ∧ w.cell? ⟨g, k * 6 + 4, none⟩ = some (.int .i64 (Sl.mk false op opl odp ovl obd).value) ∧ w.cell? ⟨g, k * 6 + 5, none⟩ = some (.int .i64 (Sl.mk false op opl odp ovl obd).bound)) ∧ (w.cell? ⟨xb, xo, none⟩ = some (.bool x.used) ∧ w.cell? ⟨xb, xo + 1, none⟩ = some (.slice ka.qa x.pits.length ka.qc) ∧ w.cell? ⟨xb, xo + 2, none⟩ = some (.int .i64 x.player) ∧ w.cell? ⟨xb, xo + 3, none⟩ = some (.int .i64 x.depth) ∧ w.cell? ⟨xb, xo + 4, none⟩ = some (.int .i64 x.value) ∧ w.cell? ⟨xb, xo + 5, none⟩ = some (.int .i64 x.bound)) ∧ w.cell? ⟨mb, mo + 9, none⟩ = some (.slice (some ⟨g, 0, none⟩) n c)) := ⟨⟨q0, q1, q2, q3, q4, q5⟩, HCS.out, H9.out⟩
    simp only at HQ0
    refine heldH (S := fun V => (V.cell? ⟨g, k * 6, none⟩ = some (.bool (Sl.mk false op opl odp ovl obd).used) ∧ V.cell? ⟨g, k * 6 + 1, none⟩ = some (.slice oA.qa (Sl.mk false op opl odp ovl obd).pits.length oA.qc) ∧ V.cell? ⟨g, k * 6 + 2, none⟩ = some (.int .i64 (Sl.mk false op opl odp ovl obd).player) ∧ V.cell? ⟨g, k * 6 + 3, none⟩ = some (.int .i64 (Sl.mk false op opl odp ovl obd).depth) ∧ V.cell? ⟨g, k * 6 + 4, none⟩ = some (.int .i64 (Sl.mk false op opl odp ovl obd).value) ∧ V.cell? ⟨g, k * 6 + 5, none⟩ = some (.int .i64 (Sl.mk false op opl odp ovl obd).bound)) ∧ (V.cell? ⟨xb, xo, none⟩ = some (.bool x.used) ∧ V.cell? ⟨xb, xo + 1, none⟩ = some (.slice ka.qa x.pits.length ka.qc) ∧ V.cell? ⟨xb, xo + 2, none⟩ = some (.int .i64 x.player) ∧ V.cell? ⟨xb, xo + 3, none⟩ = some (.int .i64 x.depth) ∧ V.cell? ⟨xb, xo + 4, none⟩ = some (.int .i64 x.value) ∧ V.cell? ⟨xb, xo + 5, none⟩ = some (.int .i64 x.bound)) ∧ V.cell? ⟨mb, mo + 9, none⟩ = some (.slice (some ⟨g, 0, none⟩) n c)) (n := 23) (listed := #[false, false, false, false, false, false, false, false, false, false, false, false, false, false, false, false, false, false, false, false, false, false, false]) (by kernel_rfl) (by rfl) (by rfl) ?_ (fun hHeld => ?_)
    (focus ((try dsimp only); (first | done | ((exact HQ0.out); done))))
    (refine takeH (i := 0) (v := ?_) (by decide +kernel) (by decide +kernel) (by kernel_rfl) (by rfl) (by exact fun _ _ _ h => h) (by rfl) ?_ (by assumption) ?_); rotate_left; (focus (intro w hSw; (try dsimp only at hSw); go_simp; (try with_reducible rfl); done)); (try simp only [Act.put, List.setIfInBounds_toArray, List.set_cons_zero, List.set_cons_succ])
    (refine takeH (i := 1) (v := ?_) (by decide +kernel) (by decide +kernel) (by kernel_rfl) (by rfl) (by exact fun _ _ _ h => h) (by rfl) ?_ (by assumption) ?_); rotate_left; (focus (intro w hSw; (try dsimp only at hSw); go_simp; (try with_reducible rfl); done)); (try simp only [Act.put, List.setIfInBounds_toArray, List.set_cons_zero, List.set_cons_succ])
    (refine takeH (i := 2) (v := ?_) (by decide +kernel) (by decide +kernel) (by kernel_rfl) (by rfl) (by exact fun _ _ _ h => h) (by rfl) ?_ (by assumption) ?_); rotate_left; (focus (intro w hSw; (try dsimp only at hSw); go_simp; (try with_reducible rfl); done)); (try simp only [Act.put, List.setIfInBounds_toArray, List.set_cons_zero, List.set_cons_succ])
    (refine takeH (i := 3) (v := ?_) (by decide +kernel) (by decide +kernel) (by kernel_rfl) (by rfl) (by exact fun _ _ _ h => h) (by rfl) ?_ (by assumption) ?_); rotate_left; (focus (intro w hSw; (try dsimp only at hSw); go_simp; (try with_reducible rfl); done)); (try simp only [Act.put, List.setIfInBounds_toArray, List.set_cons_zero, List.set_cons_succ])
    (refine takeH (i := 4) (v := ?_) (by decide +kernel) (by decide +kernel) (by kernel_rfl) (by rfl) (by exact fun _ _ _ h => h) (by rfl) ?_ (by assumption) ?_); rotate_left; (focus (intro w hSw; (try dsimp only at hSw); go_simp; (try with_reducible rfl); done)); (try simp only [Act.put, List.setIfInBounds_toArray, List.set_cons_zero, List.set_cons_succ])
    (refine takeH (i := 5) (v := ?_) (by decide +kernel) (by decide +kernel) (by kernel_rfl) (by rfl) (by exact fun _ _ _ h => h) (by rfl) ?_ (by assumption) ?_); rotate_left; (focus (intro w hSw; (try dsimp only at hSw); go_simp; (try with_reducible rfl); done)); (try simp only [Act.put, List.setIfInBounds_toArray, List.set_cons_zero, List.set_cons_succ])
    (refine takeH (i := 6) (v := ?_) (by decide +kernel) (by decide +kernel) (by kernel_rfl) (by rfl) (by exact fun _ _ _ h => h) (by rfl) ?_ (by assumption) ?_); rotate_left; (focus (intro w hSw; (try dsimp only at hSw); go_simp; (try with_reducible rfl); done)); (try simp only [Act.put, List.setIfInBounds_toArray, List.set_cons_zero, List.set_cons_succ])
    (refine takeH (i := 7) (v := ?_) (by decide +kernel) (by decide +kernel) (by kernel_rfl) (by rfl) (by exact fun _ _ _ h => h) (by rfl) ?_ (by assumption) ?_); rotate_left; (focus (intro w hSw; (try dsimp only at hSw); go_simp; (try with_reducible rfl); done)); (try simp only [Act.put, List.setIfInBounds_toArray, List.set_cons_zero, List.set_cons_succ])
    (refine takeH (i := 8) (v := ?_) (by decide +kernel) (by decide +kernel) (by kernel_rfl) (by rfl) (by exact fun _ _ _ h => h) (by rfl) ?_ (by assumption) ?_); rotate_left; (focus (intro w hSw; (try dsimp only at hSw); go_simp; (try with_reducible rfl); done)); (try simp only [Act.put, List.setIfInBounds_toArray, List.set_cons_zero, List.set_cons_succ])
    ((refine skipH (i := 9) (by decide +kernel) (by decide +kernel) (by kernel_rfl) (by rfl) (by exact fun _ _ _ h => h) (by rfl) (by assumption) ?_); (try simp only [Act.put, List.setIfInBounds_toArray, List.set_cons_zero, List.set_cons_succ]))
    ((refine skipH (i := 10) (by decide +kernel) (by decide +kernel) (by kernel_rfl) (by rfl) (by exact fun _ _ _ h => h) (by rfl) (by assumption) ?_); (try simp only [Act.put, List.setIfInBounds_toArray, List.set_cons_zero, List.set_cons_succ]))
    ((refine skipH (i := 11) (by decide +kernel) (by decide +kernel) (by kernel_rfl) (by rfl) (by exact fun _ _ _ h => h) (by rfl) (by assumption) ?_); (try simp only [Act.put, List.setIfInBounds_toArray, List.set_cons_zero, List.set_cons_succ]))
    ((refine skipH (i := 12) (by decide +kernel) (by decide +kernel) (by kernel_rfl) (by rfl) (by exact fun _ _ _ h => h) (by rfl) (by assumption) ?_); (try simp only [Act.put, List.setIfInBounds_toArray, List.set_cons_zero, List.set_cons_succ]))
    ((refine skipH (i := 13) (by decide +kernel) (by decide +kernel) (by kernel_rfl) (by rfl) (by exact fun _ _ _ h => h) (by rfl) (by assumption) ?_); (try simp only [Act.put, List.setIfInBounds_toArray, List.set_cons_zero, List.set_cons_succ]))
    ((refine skipH (i := 14) (by decide +kernel) (by decide +kernel) (by kernel_rfl) (by rfl) (by exact fun _ _ _ h => h) (by rfl) (by assumption) ?_); (try simp only [Act.put, List.setIfInBounds_toArray, List.set_cons_zero, List.set_cons_succ]))
    ((refine skipH (i := 15) (by decide +kernel) (by decide +kernel) (by kernel_rfl) (by rfl) (by exact fun _ _ _ h => h) (by rfl) (by assumption) ?_); (try simp only [Act.put, List.setIfInBounds_toArray, List.set_cons_zero, List.set_cons_succ]))
    ((refine skipH (i := 16) (by decide +kernel) (by decide +kernel) (by kernel_rfl) (by rfl) (by exact fun _ _ _ h => h) (by rfl) (by assumption) ?_); (try simp only [Act.put, List.setIfInBounds_toArray, List.set_cons_zero, List.set_cons_succ]))
    ((refine skipH (i := 17) (by decide +kernel) (by decide +kernel) (by kernel_rfl) (by rfl) (by exact fun _ _ _ h => h) (by rfl) (by assumption) ?_); (try simp only [Act.put, List.setIfInBounds_toArray, List.set_cons_zero, List.set_cons_succ]))
    ((refine skipH (i := 18) (by decide +kernel) (by decide +kernel) (by kernel_rfl) (by rfl) (by exact fun _ _ _ h => h) (by rfl) (by assumption) ?_); (try simp only [Act.put, List.setIfInBounds_toArray, List.set_cons_zero, List.set_cons_succ]))
    ((refine skipH (i := 19) (by decide +kernel) (by decide +kernel) (by kernel_rfl) (by rfl) (by exact fun _ _ _ h => h) (by rfl) (by assumption) ?_); (try simp only [Act.put, List.setIfInBounds_toArray, List.set_cons_zero, List.set_cons_succ]))
    ((refine skipH (i := 20) (by decide +kernel) (by decide +kernel) (by kernel_rfl) (by rfl) (by exact fun _ _ _ h => h) (by rfl) (by assumption) ?_); (try simp only [Act.put, List.setIfInBounds_toArray, List.set_cons_zero, List.set_cons_succ]))
    ((refine skipH (i := 21) (by decide +kernel) (by decide +kernel) (by kernel_rfl) (by rfl) (by exact fun _ _ _ h => h) (by rfl) (by assumption) ?_); (try simp only [Act.put, List.setIfInBounds_toArray, List.set_cons_zero, List.set_cons_succ]))
    (refine takeH (i := 22) (v := ?_) (by decide +kernel) (by decide +kernel) (by kernel_rfl) (by rfl) (by exact fun _ _ _ h => h) (by rfl) ?_ (by assumption) ?_); rotate_left; (focus (intro w hSw; (try dsimp only at hSw); go_simp; (try with_reducible rfl); done)); (try simp only [Act.put, List.setIfInBounds_toArray, List.set_cons_zero, List.set_cons_succ])
    refine wpAnyH_done (by decide +kernel) ?_ _
    clear hHeld HQ0 q0 q1 q2 q3 q4 q5 h9 gf hcs
    obtain ⟨Wd, hWd⟩ : ∃ W, W = w.drew.drew := ⟨_, rfl⟩
    have hbd : Below w.heap.size w Wd := by rw [hWd]; exact (Below.refl _ _).drew.drew
    rw [← hWd]
    have HBD := Lib.hid hbd
    have hxd : xb < Wd.heap.size := by have := hbd.size; omega
    obtain ⟨⟨c0, c1, c2, c3, c4, c5⟩, _, _, _, hit', hgw'⟩ := HC.out Wd hbd
    have FV := (Fr.start Wd).allocF #[.bool x.used, .slice ka.qa x.pits.length ka.qc, .int .i64 x.player, .int .i64 x.depth, .int .i64 x.value, .int .i64 x.bound] 113
    have HQC := Lib.hid (l00Own_c ka.qa ka.qc x.pits (Wd.alloc (.cells #[.bool x.used, .slice ka.qa x.pits.length ka.qc, .int .i64 x.player, .int .i64 x.depth, .int .i64 x.value, .int .i64 x.bound] 113)) (hit'.below FV.below (Nat.le_refl _)) (by omega))
    clear hWd hbd
    go_wp2_with fail
    refine HQC.out.mono ?_
    rintro e w2 ⟨qa', qc', rfl, ho2, hb2⟩
    have F2 := FV.step hb2
    have hs2 : Wd.heap.size < w2.heap.size := F2.le 0 rfl
    have B3 := (F2.at 0 rfl : BoxF _ _ _).put (j0 := 1) (by simp) (.slice qa' x.pits.length qc')
    have f2 := (F2.at 0 rfl : BoxF _ _ _).2
    have p1 : w2.cell? ⟨Wd.heap.size, 1, none⟩ = some (.slice ka.qa x.pits.length ka.qc) := (F2.at 0 rfl : BoxF _ _ _).1 1 _ rfl
    have hb3 : Below w.heap.size w (w2.setCell ⟨Wd.heap.size, 1, none⟩ (.slice qa' x.pits.length qc')) := (below_next HBD.out F2.below).setCell HBD.out.size _
    have ho3 : OwnI (w2.setCell ⟨Wd.heap.size, 1, none⟩ (.slice qa' x.pits.length qc')) w.heap.size qa' qc' x.pits := ownsRow_le (ownsRow_setCell_below (base := Wd.heap.size + 1) (by simpa using ho2) (Nat.lt_succ_self _) _) (by have := HBD.out.size; omega)
    obtain ⟨W3, hW3⟩ : ∃ W, W = w2.setCell ⟨Wd.heap.size, 1, none⟩ (.slice qa' x.pits.length qc') := ⟨_, rfl⟩
    rw [← hW3] at B3 hb3 ho3
    have HW3 := Lib.hid hW3
    have HB3 := Lib.hid hb3
    have HO3 := Lib.hid ho3
    have HT3 : Hid (W3.cell? ⟨Wd.heap.size, 0, none⟩ = some (.bool x.used) ∧ W3.cell? ⟨Wd.heap.size, 1, none⟩ = some (.slice (SA.mk qa' qc').qa x.pits.length (SA.mk qa' qc').qc) ∧ W3.cell? ⟨Wd.heap.size, 2, none⟩ = some (.int .i64 x.player) ∧ W3.cell? ⟨Wd.heap.size, 3, none⟩ = some (.int .i64 x.depth) ∧ W3.cell? ⟨Wd.heap.size, 4, none⟩ = some (.int .i64 x.value) ∧ W3.cell? ⟨Wd.heap.size, 5, none⟩ = some (.int .i64 x.bound)) := ⟨B3.1 0 _ rfl, B3.1 1 _ rfl, B3.1 2 _ rfl, B3.1 3 _ rfl, B3.1 4 _ rfl, B3.1 5 _ rfl⟩
    simp only at HT3
    obtain ⟨_, ⟨q0, q1, q2, q3, q4, q5⟩, h9', gf', _, hgw3⟩ := HC.out W3 hb3
    have H93 := Lib.hid h9'
    have hgd : ¬ Wd.heap.size = g := by omega
    have HKE : Hid (∀ V : World, (∀ b o, ¬ b = g → V.cell? ⟨b, o, none⟩ = W3.cell? ⟨b, o, none⟩) → (V.cell? ⟨Wd.heap.size, 0, none⟩ = some (.bool x.used) ∧ V.cell? ⟨Wd.heap.size, 1, none⟩ = some (.slice (SA.mk qa' qc').qa x.pits.length (SA.mk qa' qc').qc) ∧ V.cell? ⟨Wd.heap.size, 2, none⟩ = some (.int .i64 x.player) ∧ V.cell? ⟨Wd.heap.size, 3, none⟩ = some (.int .i64 x.depth) ∧ V.cell? ⟨Wd.heap.size, 4, none⟩ = some (.int .i64 x.value) ∧ V.cell? ⟨Wd.heap.size, 5, none⟩ = some (.int .i64 x.bound)) ∧ V.cell? ⟨mb, mo + 9, none⟩ = some (.slice (some ⟨g, 0, none⟩) n c)) := fun V hV => ⟨⟨(hV _ _ hgd).trans HT3.out.1, (hV _ _ hgd).trans HT3.out.2.1, (hV _ _ hgd).trans HT3.out.2.2.1, (hV _ _ hgd).trans HT3.out.2.2.2.1, (hV _ _ hgd).trans HT3.out.2.2.2.2.1, (hV _ _ hgd).trans HT3.out.2.2.2.2.2⟩, (hV _ _ hmg).trans H93.out⟩
    simp only at HKE
    have HPUT := Lib.hid (store_put (A := ⟨qa', qc'⟩) HPC.out HK.out HX0.out (fun h => by cases h.1) HB3.out HO3.out)
    clear hW3 hb3 ho3 B3 ho2 hb2 F2 FV HQC c0 c1 c2 c3 c4 c5 hit' hgw'
    go_upto_region 4 with fail
    rw [← HW3.out]
    clear HW3 p1 f2 hs2
    refine heldH (S := fun V => (V.cell? ⟨Wd.heap.size, 0, none⟩ = some (.bool x.used) ∧ V.cell? ⟨Wd.heap.size, 1, none⟩ = some (.slice (SA.mk qa' qc').qa x.pits.length (SA.mk qa' qc').qc) ∧ V.cell? ⟨Wd.heap.size, 2, none⟩ = some (.int .i64 x.player) ∧ V.cell? ⟨Wd.heap.size, 3, none⟩ = some (.int .i64 x.depth) ∧ V.cell? ⟨Wd.heap.size, 4, none⟩ = some (.int .i64 x.value) ∧ V.cell? ⟨Wd.heap.size, 5, none⟩ = some (.int .i64 x.bound)) ∧ V.cell? ⟨mb, mo + 9, none⟩ = some (.slice (some ⟨g, 0, none⟩) n c)) (n := 8) (listed := #[false, false, false, false, false, false, false, false]) (by kernel_rfl) (by rfl) (by rfl) ?_ (fun hHeld => ?_)
    (focus ((try dsimp only); (first | done | ((first | (refine HKE.out _ (fun b o hb => ?_); simp only [World.cell?_drew]; rw [cell_other hb, cell_other hb, cell_other hb, cell_other hb, cell_other hb, cell_other hb]; done) | exact ⟨HT3.out, H93.out⟩); done))))
    (refine takeH (i := 0) (v := ?_) (by decide +kernel) (by decide +kernel) (by kernel_rfl) (by rfl) (by exact fun _ _ _ h => h) (by rfl) ?_ (by assumption) ?_); rotate_left; (focus (intro w hSw; (try dsimp only at hSw); go_simp; (try with_reducible rfl); done)); (try simp only [Act.put, List.setIfInBounds_toArray, List.set_cons_zero, List.set_cons_succ])
    (refine takeH (i := 1) (v := ?_) (by decide +kernel) (by decide +kernel) (by kernel_rfl) (by rfl) (by exact fun _ _ _ h => h) (by rfl) ?_ (by assumption) ?_); rotate_left; (focus (intro w hSw; (try dsimp only at hSw); go_simp; (try with_reducible rfl); done)); (try simp only [Act.put, List.setIfInBounds_toArray, List.set_cons_zero, List.set_cons_succ])
    (refine takeH (i := 2) (v := ?_) (by decide +kernel) (by decide +kernel) (by kernel_rfl) (by rfl) (by exact fun _ _ _ h => h) (by rfl) ?_ (by assumption) ?_); rotate_left; (focus (intro w hSw; (try dsimp only at hSw); go_simp; (try with_reducible rfl); done)); (try simp only [Act.put, List.setIfInBounds_toArray, List.set_cons_zero, List.set_cons_succ])
    (refine takeH (i := 3) (v := ?_) (by decide +kernel) (by decide +kernel) (by kernel_rfl) (by rfl) (by exact fun _ _ _ h => h) (by rfl) ?_ (by assumption) ?_); rotate_left; (focus (intro w hSw; (try dsimp only at hSw); go_simp; (try with_reducible rfl); done)); (try simp only [Act.put, List.setIfInBounds_toArray, List.set_cons_zero, List.set_cons_succ])
    (refine takeH (i := 4) (v := ?_) (by decide +kernel) (by decide +kernel) (by kernel_rfl) (by rfl) (by exact fun _ _ _ h => h) (by rfl) ?_ (by assumption) ?_); rotate_left; (focus (intro w hSw; (try dsimp only at hSw); go_simp; (try with_reducible rfl); done)); (try simp only [Act.put, List.setIfInBounds_toArray, List.set_cons_zero, List.set_cons_succ])
    (refine takeH (i := 5) (v := ?_) (by decide +kernel) (by decide +kernel) (by kernel_rfl) (by rfl) (by exact fun _ _ _ h => h) (by rfl) ?_ (by assumption) ?_); rotate_left; (focus (intro w hSw; (try dsimp only at hSw); go_simp; (try with_reducible rfl); done)); (try simp only [Act.put, List.setIfInBounds_toArray, List.set_cons_zero, List.set_cons_succ])
    (refine takeH (i := 6) (v := ?_) (by decide +kernel) (by decide +kernel) (by kernel_rfl) (by rfl) (by exact fun _ _ _ h => h) (by rfl) ?_ (by assumption) ?_); rotate_left; (focus (intro w hSw; (try dsimp only at hSw); go_simp; (try with_reducible rfl); done)); (try simp only [Act.put, List.setIfInBounds_toArray, List.set_cons_zero, List.set_cons_succ])
    refine nextH (i := 7) (by decide +kernel) (by rfl) (by rfl) (fun K hK => ?_)
    (go_simp)
    refine hK.out _ _ ?_ (fun hHeld' => ?_)
    (focus ((try dsimp only); (first | done | ((first | (refine HKE.out _ (fun b o hb => ?_); simp only [World.cell?_drew]; rw [cell_other hb, cell_other hb, cell_other hb, cell_other hb, cell_other hb, cell_other hb]; done) | exact ⟨HT3.out, H93.out⟩); done))))
    clear hK K hHeld
    have hHeld := hHeld'
    clear hHeld'
    (try simp only [Act.put, List.setIfInBounds_toArray, List.set_cons_zero, List.set_cons_succ])
    refine wpAnyH_done (by decide +kernel) ?_ _
    clear hHeld
    go_wp2
    go_end0
    obtain ⟨m', e1, p1, g1⟩ := HPUT.out
    exact ⟨rfl, m', e1, pcs_below p1 (Below.refl _ _).drew, g1.trans (Chg.ofBelow (Below.refl _ _).drew)⟩
  case true =>
    have HQ0 : Hid ((w.cell? ⟨g, k * 6, none⟩ = some (.bool (Sl.mk true op opl odp ovl obd).used) ∧ w.cell? ⟨g, k * 6 + 1, none⟩ = some (.slice oA.qa (Sl.mk true op opl odp ovl obd).pits.length oA.qc) ∧ w.cell? ⟨g, k * 6 + 2, none⟩ = some (.int .i64 (Sl.mk true op opl odp ovl obd).player) ∧ w.cell? ⟨g, k * 6 + 3, none⟩ = some (.int .i64 (Sl.mk true op opl odp ovl obd).depth) ∧ w.cell? ⟨g, k * 6 + 4, none⟩ = some (.int .i64 (Sl.mk true op opl odp ovl obd).value) ∧ w.cell? ⟨g, k * 6 + 5, none⟩ = some (.int .i64 (Sl.mk true op opl odp ovl obd).bound)) ∧ (w.cell? ⟨xb, xo, none⟩ = some (.bool x.used) ∧ w.cell? ⟨xb, xo + 1, none⟩ = some (.slice ka.qa x.pits.length ka.qc) ∧ w.cell? ⟨xb, xo + 2, none⟩ = some (.int .i64 x.player) ∧ w.cell? ⟨xb, xo + 3, none⟩ = some (.int .i64 x.depth) ∧ w.cell? ⟨xb, xo + 4, none⟩ = some (.int .i64 x.value) ∧ w.cell? ⟨xb, xo + 5, none⟩ = some (.int .i64 x.bound)) ∧ w.cell? ⟨mb, mo + 9, none⟩ = some (.slice (some ⟨g, 0, none⟩) n c)) := ⟨⟨q0, q1, q2, q3, q4, q5⟩, HCS.out, H9.out⟩
    simp only at HQ0
    refine heldH (S := fun V => (V.cell? ⟨g, k * 6, none⟩ = some (.bool (Sl.mk true op opl odp ovl obd).used) ∧ V.cell? ⟨g, k * 6 + 1, none⟩ = some (.slice oA.qa (Sl.mk true op opl odp ovl obd).pits.length oA.qc) ∧ V.cell? ⟨g, k * 6 + 2, none⟩ = some (.int .i64 (Sl.mk true op opl odp ovl obd).player) ∧ V.cell? ⟨g, k * 6 + 3, none⟩ = some (.int .i64 (Sl.mk true op opl odp ovl obd).depth) ∧ V.cell? ⟨g, k * 6 + 4, none⟩ = some (.int .i64 (Sl.mk true op opl odp ovl obd).value) ∧ V.cell? ⟨g, k * 6 + 5, none⟩ = some (.int .i64 (Sl.mk true op opl odp ovl obd).bound)) ∧ (V.cell? ⟨xb, xo, none⟩ = some (.bool x.used) ∧ V.cell? ⟨xb, xo + 1, none⟩ = some (.slice ka.qa x.pits.length ka.qc) ∧ V.cell? ⟨xb, xo + 2, none⟩ = some (.int .i64 x.player) ∧ V.cell? ⟨xb, xo + 3, none⟩ = some (.int .i64 x.depth) ∧ V.cell? ⟨xb, xo + 4, none⟩ = some (.int .i64 x.value) ∧ V.cell? ⟨xb, xo + 5, none⟩ = some (.int .i64 x.bound)) ∧ V.cell? ⟨mb, mo + 9, none⟩ = some (.slice (some ⟨g, 0, none⟩) n c)) (n := 23) (listed := #[false, false, false, false, false, false, false, false, false, false, false, false, false, false, false, false, false, false, false, false, false, false, false]) (by kernel_rfl) (by rfl) (by rfl) ?_ (fun hHeld => ?_)
    (focus ((try dsimp only); (first | done | ((exact HQ0.out); done))))
    (refine takeH (i := 0) (v := ?_) (by decide +kernel) (by decide +kernel) (by kernel_rfl) (by rfl) (by exact fun _ _ _ h => h) (by rfl) ?_ (by assumption) ?_); rotate_left; (focus (intro w hSw; (try dsimp only at hSw); go_simp; (try with_reducible rfl); done)); (try simp only [Act.put, List.setIfInBounds_toArray, List.set_cons_zero, List.set_cons_succ])
    (refine takeH (i := 1) (v := ?_) (by decide +kernel) (by decide +kernel) (by kernel_rfl) (by rfl) (by exact fun _ _ _ h => h) (by rfl) ?_ (by assumption) ?_); rotate_left; (focus (intro w hSw; (try dsimp only at hSw); go_simp; (try with_reducible rfl); done)); (try simp only [Act.put, List.setIfInBounds_toArray, List.set_cons_zero, List.set_cons_succ])
    (refine takeH (i := 2) (v := ?_) (by decide +kernel) (by decide +kernel) (by kernel_rfl) (by rfl) (by exact fun _ _ _ h => h) (by rfl) ?_ (by assumption) ?_); rotate_left; (focus (intro w hSw; (try dsimp only at hSw); go_simp; (try with_reducible rfl); done)); (try simp only [Act.put, List.setIfInBounds_toArray, List.set_cons_zero, List.set_cons_succ])
    (refine takeH (i := 3) (v := ?_) (by decide +kernel) (by decide +kernel) (by kernel_rfl) (by rfl) (by exact fun _ _ _ h => h) (by rfl) ?_ (by assumption) ?_); rotate_left; (focus (intro w hSw; (try dsimp only at hSw); go_simp; (try with_reducible rfl); done)); (try simp only [Act.put, List.setIfInBounds_toArray, List.set_cons_zero, List.set_cons_succ])
    (refine takeH (i := 4) (v := ?_) (by decide +kernel) (by decide +kernel) (by kernel_rfl) (by rfl) (by exact fun _ _ _ h => h) (by rfl) ?_ (by assumption) ?_); rotate_left; (focus (intro w hSw; (try dsimp only at hSw); go_simp; (try with_reducible rfl); done)); (try simp only [Act.put, List.setIfInBounds_toArray, List.set_cons_zero, List.set_cons_succ])
    (refine takeH (i := 5) (v := ?_) (by decide +kernel) (by decide +kernel) (by kernel_rfl) (by rfl) (by exact fun _ _ _ h => h) (by rfl) ?_ (by assumption) ?_); rotate_left; (focus (intro w hSw; (try dsimp only at hSw); go_simp; (try with_reducible rfl); done)); (try simp only [Act.put, List.setIfInBounds_toArray, List.set_cons_zero, List.set_cons_succ])
    (refine takeH (i := 6) (v := ?_) (by decide +kernel) (by decide +kernel) (by kernel_rfl) (by rfl) (by exact fun _ _ _ h => h) (by rfl) ?_ (by assumption) ?_); rotate_left; (focus (intro w hSw; (try dsimp only at hSw); go_simp; (try with_reducible rfl); done)); (try simp only [Act.put, List.setIfInBounds_toArray, List.set_cons_zero, List.set_cons_succ])
    (refine takeH (i := 7) (v := ?_) (by decide +kernel) (by decide +kernel) (by kernel_rfl) (by rfl) (by exact fun _ _ _ h => h) (by rfl) ?_ (by assumption) ?_); rotate_left; (focus (intro w hSw; (try dsimp only at hSw); go_simp; (try with_reducible rfl); done)); (try simp only [Act.put, List.setIfInBounds_toArray, List.set_cons_zero, List.set_cons_succ])
    (refine takeH (i := 8) (v := ?_) (by decide +kernel) (by decide +kernel) (by kernel_rfl) (by rfl) (by exact fun _ _ _ h => h) (by rfl) ?_ (by assumption) ?_); rotate_left; (focus (intro w hSw; (try dsimp only at hSw); go_simp; (try with_reducible rfl); done)); (try simp only [Act.put, List.setIfInBounds_toArray, List.set_cons_zero, List.set_cons_succ])
    (refine takeH (i := 9) (v := ?_) (by decide +kernel) (by decide +kernel) (by kernel_rfl) (by rfl) (by exact fun _ _ _ h => h) (by rfl) ?_ (by assumption) ?_); rotate_left; (focus (intro w hSw; (try dsimp only at hSw); go_simp; (try with_reducible rfl); done)); (try simp only [Act.put, List.setIfInBounds_toArray, List.set_cons_zero, List.set_cons_succ])
    (refine takeH (i := 10) (v := ?_) (by decide +kernel) (by decide +kernel) (by kernel_rfl) (by rfl) (by exact fun _ _ _ h => h) (by rfl) ?_ (by assumption) ?_); rotate_left; (focus (intro w hSw; (try dsimp only at hSw); go_simp; (try with_reducible rfl); done)); (try simp only [Act.put, List.setIfInBounds_toArray, List.set_cons_zero, List.set_cons_succ])
    (refine takeH (i := 11) (v := ?_) (by decide +kernel) (by decide +kernel) (by kernel_rfl) (by rfl) (by exact fun _ _ _ h => h) (by rfl) ?_ (by assumption) ?_); rotate_left; (focus (intro w hSw; (try dsimp only at hSw); go_simp; (try with_reducible rfl); done)); (try simp only [Act.put, List.setIfInBounds_toArray, List.set_cons_zero, List.set_cons_succ])
    (refine takeH (i := 12) (v := ?_) (by decide +kernel) (by decide +kernel) (by kernel_rfl) (by rfl) (by exact fun _ _ _ h => h) (by rfl) ?_ (by assumption) ?_); rotate_left; (focus (intro w hSw; (try dsimp only at hSw); go_simp; (try with_reducible rfl); done)); (try simp only [Act.put, List.setIfInBounds_toArray, List.set_cons_zero, List.set_cons_succ])
    (refine takeH (i := 13) (v := ?_) (by decide +kernel) (by decide +kernel) (by kernel_rfl) (by rfl) (by exact fun _ _ _ h => h) (by rfl) ?_ (by assumption) ?_); rotate_left; (focus (intro w hSw; (try dsimp only at hSw); go_simp; (try with_reducible rfl); done)); (try simp only [Act.put, List.setIfInBounds_toArray, List.set_cons_zero, List.set_cons_succ])
    (refine takeH (i := 14) (v := ?_) (by decide +kernel) (by decide +kernel) (by kernel_rfl) (by rfl) (by exact fun _ _ _ h => h) (by rfl) ?_ (by assumption) ?_); rotate_left; (focus (intro w hSw; (try dsimp only at hSw); go_simp; (try with_reducible rfl); done)); (try simp only [Act.put, List.setIfInBounds_toArray, List.set_cons_zero, List.set_cons_succ])
    (refine takeH (i := 15) (v := ?_) (by decide +kernel) (by decide +kernel) (by kernel_rfl) (by rfl) (by exact fun _ _ _ h => h) (by rfl) ?_ (by assumption) ?_); rotate_left; (focus (intro w hSw; (try dsimp only at hSw); go_simp; (try with_reducible rfl); done)); (try simp only [Act.put, List.setIfInBounds_toArray, List.set_cons_zero, List.set_cons_succ])
    (refine takeH (i := 16) (v := ?_) (by decide +kernel) (by decide +kernel) (by kernel_rfl) (by rfl) (by exact fun _ _ _ h => h) (by rfl) ?_ (by assumption) ?_); rotate_left; (focus (intro w hSw; (try dsimp only at hSw); go_simp; (try with_reducible rfl); done)); (try simp only [Act.put, List.setIfInBounds_toArray, List.set_cons_zero, List.set_cons_succ])
    (refine takeH (i := 17) (v := ?_) (by decide +kernel) (by decide +kernel) (by kernel_rfl) (by rfl) (by exact fun _ _ _ h => h) (by rfl) ?_ (by assumption) ?_); rotate_left; (focus (intro w hSw; (try dsimp only at hSw); go_simp; (try with_reducible rfl); done)); (try simp only [Act.put, List.setIfInBounds_toArray, List.set_cons_zero, List.set_cons_succ])
    (refine takeH (i := 18) (v := ?_) (by decide +kernel) (by decide +kernel) (by kernel_rfl) (by rfl) (by exact fun _ _ _ h => h) (by rfl) ?_ (by assumption) ?_); rotate_left; (focus (intro w hSw; (try dsimp only at hSw); go_simp; (try with_reducible rfl); done)); (try simp only [Act.put, List.setIfInBounds_toArray, List.set_cons_zero, List.set_cons_succ])
    (refine takeH (i := 19) (v := ?_) (by decide +kernel) (by decide +kernel) (by kernel_rfl) (by rfl) (by exact fun _ _ _ h => h) (by rfl) ?_ (by assumption) ?_); rotate_left; (focus (intro w hSw; (try dsimp only at hSw); go_simp; (try with_reducible rfl); done)); (try simp only [Act.put, List.setIfInBounds_toArray, List.set_cons_zero, List.set_cons_succ])
    (refine takeH (i := 20) (v := ?_) (by decide +kernel) (by decide +kernel) (by kernel_rfl) (by rfl) (by exact fun _ _ _ h => h) (by rfl) ?_ (by assumption) ?_); rotate_left; (focus (intro w hSw; (try dsimp only at hSw); go_simp; (try with_reducible rfl); done)); (try simp only [Act.put, List.setIfInBounds_toArray, List.set_cons_zero, List.set_cons_succ])
    (refine takeH (i := 21) (v := ?_) (by decide +kernel) (by decide +kernel) (by kernel_rfl) (by rfl) (by exact fun _ _ _ h => h) (by rfl) ?_ (by assumption) ?_); rotate_left; (focus (intro w hSw; (try dsimp only at hSw); go_simp; (try with_reducible rfl); done)); (try simp only [Act.put, List.setIfInBounds_toArray, List.set_cons_zero, List.set_cons_succ])
    (refine takeH (i := 22) (v := ?_) (by decide +kernel) (by decide +kernel) (by kernel_rfl) (by rfl) (by exact fun _ _ _ h => h) (by rfl) ?_ (by assumption) ?_); rotate_left; (focus (intro w hSw; (try dsimp only at hSw); go_simp; (try with_reducible rfl); done)); (try simp only [Act.put, List.setIfInBounds_toArray, List.set_cons_zero, List.set_cons_succ])
    refine wpAnyH_done (by decide +kernel) ?_ _
    clear hHeld HQ0 q0 q1 q2 q3 q4 q5 h9 gf hcs
    by_cases hd : x.depth < odp
    · have HKP := Lib.hid (store_keep HPC.out HK.out HX0.out rfl hd ((Below.refl w.heap.size w).drew.drew))
      go_wp2
      go_end0
      exact ⟨rfl, HKP.out⟩
    have HD := Lib.hid hd
    obtain ⟨Wd, hWd⟩ : ∃ W, W = w.drew.drew := ⟨_, rfl⟩
    have hbd : Below w.heap.size w Wd := by rw [hWd]; exact (Below.refl _ _).drew.drew
    rw [← hWd]
    have HBD := Lib.hid hbd
    have hxd : xb < Wd.heap.size := by have := hbd.size; omega
    obtain ⟨⟨c0, c1, c2, c3, c4, c5⟩, _, _, _, hit', hgw'⟩ := HC.out Wd hbd
    have FV := (Fr.start Wd).allocF #[.bool x.used, .slice ka.qa x.pits.length ka.qc, .int .i64 x.player, .int .i64 x.depth, .int .i64 x.value, .int .i64 x.bound] 113
    have HQC := Lib.hid (l00Own_c ka.qa ka.qc x.pits (Wd.alloc (.cells #[.bool x.used, .slice ka.qa x.pits.length ka.qc, .int .i64 x.player, .int .i64 x.depth, .int .i64 x.value, .int .i64 x.bound] 113)) (hit'.below FV.below (Nat.le_refl _)) (by omega))
    clear hWd hbd
    go_wp2_with fail
    refine HQC.out.mono ?_
    rintro e w2 ⟨qa', qc', rfl, ho2, hb2⟩
    have F2 := FV.step hb2
    have hs2 : Wd.heap.size < w2.heap.size := F2.le 0 rfl
    have B3 := (F2.at 0 rfl : BoxF _ _ _).put (j0 := 1) (by simp) (.slice qa' x.pits.length qc')
    have f2 := (F2.at 0 rfl : BoxF _ _ _).2
    have p1 : w2.cell? ⟨Wd.heap.size, 1, none⟩ = some (.slice ka.qa x.pits.length ka.qc) := (F2.at 0 rfl : BoxF _ _ _).1 1 _ rfl
    have hb3 : Below w.heap.size w (w2.setCell ⟨Wd.heap.size, 1, none⟩ (.slice qa' x.pits.length qc')) := (below_next HBD.out F2.below).setCell HBD.out.size _
    have ho3 : OwnI (w2.setCell ⟨Wd.heap.size, 1, none⟩ (.slice qa' x.pits.length qc')) w.heap.size qa' qc' x.pits := ownsRow_le (ownsRow_setCell_below (base := Wd.heap.size + 1) (by simpa using ho2) (Nat.lt_succ_self _) _) (by have := HBD.out.size; omega)
    obtain ⟨W3, hW3⟩ : ∃ W, W = w2.setCell ⟨Wd.heap.size, 1, none⟩ (.slice qa' x.pits.length qc') := ⟨_, rfl⟩
    rw [← hW3] at B3 hb3 ho3
    have HW3 := Lib.hid hW3
    have HB3 := Lib.hid hb3
    have HO3 := Lib.hid ho3
    have HT3 : Hid (W3.cell? ⟨Wd.heap.size, 0, none⟩ = some (.bool x.used) ∧ W3.cell? ⟨Wd.heap.size, 1, none⟩ = some (.slice (SA.mk qa' qc').qa x.pits.length (SA.mk qa' qc').qc) ∧ W3.cell? ⟨Wd.heap.size, 2, none⟩ = some (.int .i64 x.player) ∧ W3.cell? ⟨Wd.heap.size, 3, none⟩ = some (.int .i64 x.depth) ∧ W3.cell? ⟨Wd.heap.size, 4, none⟩ = some (.int .i64 x.value) ∧ W3.cell? ⟨Wd.heap.size, 5, none⟩ = some (.int .i64 x.bound)) := ⟨B3.1 0 _ rfl, B3.1 1 _ rfl, B3.1 2 _ rfl, B3.1 3 _ rfl, B3.1 4 _ rfl, B3.1 5 _ rfl⟩
    simp only at HT3
    obtain ⟨_, ⟨q0, q1, q2, q3, q4, q5⟩, h9', gf', _, hgw3⟩ := HC.out W3 hb3
    have H93 := Lib.hid h9'
    have hgd : ¬ Wd.heap.size = g := by omega
    have HKE : Hid (∀ V : World, (∀ b o, ¬ b = g → V.cell? ⟨b, o, none⟩ = W3.cell? ⟨b, o, none⟩) → (V.cell? ⟨Wd.heap.size, 0, none⟩ = some (.bool x.used) ∧ V.cell? ⟨Wd.heap.size, 1, none⟩ = some (.slice (SA.mk qa' qc').qa x.pits.length (SA.mk qa' qc').qc) ∧ V.cell? ⟨Wd.heap.size, 2, none⟩ = some (.int .i64 x.player) ∧ V.cell? ⟨Wd.heap.size, 3, none⟩ = some (.int .i64 x.depth) ∧ V.cell? ⟨Wd.heap.size, 4, none⟩ = some (.int .i64 x.value) ∧ V.cell? ⟨Wd.heap.size, 5, none⟩ = some (.int .i64 x.bound)) ∧ V.cell? ⟨mb, mo + 9, none⟩ = some (.slice (some ⟨g, 0, none⟩) n c)) := fun V hV => ⟨⟨(hV _ _ hgd).trans HT3.out.1, (hV _ _ hgd).trans HT3.out.2.1, (hV _ _ hgd).trans HT3.out.2.2.1, (hV _ _ hgd).trans HT3.out.2.2.2.1, (hV _ _ hgd).trans HT3.out.2.2.2.2.1, (hV _ _ hgd).trans HT3.out.2.2.2.2.2⟩, (hV _ _ hmg).trans H93.out⟩
    simp only at HKE
    have HPUT := Lib.hid (store_put (A := ⟨qa', qc'⟩) HPC.out HK.out HX0.out (fun h => by have h1 := HD.out; have h2 : x.depth < odp := h.2; omega) HB3.out HO3.out)
    clear hW3 hb3 ho3 B3 ho2 hb2 F2 FV HQC c0 c1 c2 c3 c4 c5 hit' hgw'
    go_upto_region 4 with fail
    rw [← HW3.out]
    clear HW3 p1 f2 hs2
    refine heldH (S := fun V => (V.cell? ⟨Wd.heap.size, 0, none⟩ = some (.bool x.used) ∧ V.cell? ⟨Wd.heap.size, 1, none⟩ = some (.slice (SA.mk qa' qc').qa x.pits.length (SA.mk qa' qc').qc) ∧ V.cell? ⟨Wd.heap.size, 2, none⟩ = some (.int .i64 x.player) ∧ V.cell? ⟨Wd.heap.size, 3, none⟩ = some (.int .i64 x.depth) ∧ V.cell? ⟨Wd.heap.size, 4, none⟩ = some (.int .i64 x.value) ∧ V.cell? ⟨Wd.heap.size, 5, none⟩ = some (.int .i64 x.bound)) ∧ V.cell? ⟨mb, mo + 9, none⟩ = some (.slice (some ⟨g, 0, none⟩) n c)) (n := 8) (listed := #[false, false, false, false, false, false, false, false]) (by kernel_rfl) (by rfl) (by rfl) ?_ (fun hHeld => ?_)
    (focus ((try dsimp only); (first | done | ((first | (refine HKE.out _ (fun b o hb => ?_); simp only [World.cell?_drew]; rw [cell_other hb, cell_other hb, cell_other hb, cell_other hb, cell_other hb, cell_other hb]; done) | exact ⟨HT3.out, H93.out⟩); done))))
    (refine takeH (i := 0) (v := ?_) (by decide +kernel) (by decide +kernel) (by kernel_rfl) (by rfl) (by exact fun _ _ _ h => h) (by rfl) ?_ (by assumption) ?_); rotate_left; (focus (intro w hSw; (try dsimp only at hSw); go_simp; (try with_reducible rfl); done)); (try simp only [Act.put, List.setIfInBounds_toArray, List.set_cons_zero, List.set_cons_succ])
    (refine takeH (i := 1) (v := ?_) (by decide +kernel) (by decide +kernel) (by kernel_rfl) (by rfl) (by exact fun _ _ _ h => h) (by rfl) ?_ (by assumption) ?_); rotate_left; (focus (intro w hSw; (try dsimp only at hSw); go_simp; (try with_reducible rfl); done)); (try simp only [Act.put, List.setIfInBounds_toArray, List.set_cons_zero, List.set_cons_succ])
    (refine takeH (i := 2) (v := ?_) (by decide +kernel) (by decide +kernel) (by kernel_rfl) (by rfl) (by exact fun _ _ _ h => h) (by rfl) ?_ (by assumption) ?_); rotate_left; (focus (intro w hSw; (try dsimp only at hSw); go_simp; (try with_reducible rfl); done)); (try simp only [Act.put, List.setIfInBounds_toArray, List.set_cons_zero, List.set_cons_succ])
    (refine takeH (i := 3) (v := ?_) (by decide +kernel) (by decide +kernel) (by kernel_rfl) (by rfl) (by exact fun _ _ _ h => h) (by rfl) ?_ (by assumption) ?_); rotate_left; (focus (intro w hSw; (try dsimp only at hSw); go_simp; (try with_reducible rfl); done)); (try simp only [Act.put, List.setIfInBounds_toArray, List.set_cons_zero, List.set_cons_succ])
    (refine takeH (i := 4) (v := ?_) (by decide +kernel) (by decide +kernel) (by kernel_rfl) (by rfl) (by exact fun _ _ _ h => h) (by rfl) ?_ (by assumption) ?_); rotate_left; (focus (intro w hSw; (try dsimp only at hSw); go_simp; (try with_reducible rfl); done)); (try simp only [Act.put, List.setIfInBounds_toArray, List.set_cons_zero, List.set_cons_succ])
    (refine takeH (i := 5) (v := ?_) (by decide +kernel) (by decide +kernel) (by kernel_rfl) (by rfl) (by exact fun _ _ _ h => h) (by rfl) ?_ (by assumption) ?_); rotate_left; (focus (intro w hSw; (try dsimp only at hSw); go_simp; (try with_reducible rfl); done)); (try simp only [Act.put, List.setIfInBounds_toArray, List.set_cons_zero, List.set_cons_succ])
    (refine takeH (i := 6) (v := ?_) (by decide +kernel) (by decide +kernel) (by kernel_rfl) (by rfl) (by exact fun _ _ _ h => h) (by rfl) ?_ (by assumption) ?_); rotate_left; (focus (intro w hSw; (try dsimp only at hSw); go_simp; (try with_reducible rfl); done)); (try simp only [Act.put, List.setIfInBounds_toArray, List.set_cons_zero, List.set_cons_succ])
    refine nextH (i := 7) (by decide +kernel) (by rfl) (by rfl) (fun K hK => ?_)
    (go_simp)
    refine hK.out _ _ ?_ (fun hHeld' => ?_)
    (focus ((try dsimp only); (first | done | ((first | (refine HKE.out _ (fun b o hb => ?_); simp only [World.cell?_drew]; rw [cell_other hb, cell_other hb, cell_other hb, cell_other hb, cell_other hb, cell_other hb]; done) | exact ⟨HT3.out, H93.out⟩); done))))
    clear hK K hHeld
    have hHeld := hHeld'
    clear hHeld'
    (try simp only [Act.put, List.setIfInBounds_toArray, List.set_cons_zero, List.set_cons_succ])
    refine wpAnyH_done (by decide +kernel) ?_ _
    clear hHeld
    go_wp2
    go_end0
    obtain ⟨m', e1, p1, g1⟩ := HPUT.out
    exact ⟨rfl, m', e1, pcs_below p1 (Below.refl _ _).drew, g1.trans (Chg.ofBelow (Below.refl _ _).drew)⟩

set_option maxRecDepth 100000 in
set_option maxHeartbeats 8000000 in
theorem store_c (r : R) (m : List (Sl × SA)) (g c base : Nat) (x : Sl) (ka : SA) (w : World) (hp : Pcs w base (slRL.pcs (some ⟨g, 0, none⟩) c m)) (hl : 1 ≤ m.length ∧ m.length ≤ 64)
    (hit : Ints w ka.qa x.pits) (hxm : x.pits.length ≤ 1048576) (hpl : 0 ≤ x.player ∧ x.player ≤ 1) (hb : ∀ z ∈ x.pits, 0 ≤ z ∧ z ≤ 96) :
    Calls Try.prog 83 #[meVal r (some ⟨g, 0, none⟩) m.length c, x.val ka] w (StPost w base g c (storeL (m.map Prod.fst) x)) := by
  obtain ⟨k, hk, hkn⟩ := hashP_at hpl hb hl.1
  have hx0 : m[k]? = some m[k] := List.getElem?_eq_getElem hkn
  obtain ⟨⟨o, oA⟩, ho⟩ : ∃ o, o = m[k] := ⟨_, rfl⟩
  rw [← ho] at hx0
  clear ho
  have hpp := hp.mk'
  obtain ⟨n, hn⟩ : ∃ n, n = m.length := ⟨_, rfl⟩
  have HPC := Lib.hid hp
  have HK : Hid (hashP x.pits x.player m.length = (k : Int)) := hk
  have HX0 := Lib.hid hx0
  rw [← hn] at hl
  have hkn' : k < n := by omega
  have hkI : (k : Int) < (n : Int) := by omega
  obtain ⟨ou, op, opl, odp, ovl, obd⟩ := o
  obtain ⟨q0, f0⟩ : _ ∧ _ := RL.cell hpp hx0 (i := 0) (by decide) rfl
  obtain ⟨q1, f1⟩ : _ ∧ _ := RL.cell hpp hx0 (i := 1) (by decide) rfl
  obtain ⟨q2, f2⟩ : _ ∧ _ := RL.cell hpp hx0 (i := 2) (by decide) rfl
  obtain ⟨q3, f3⟩ : _ ∧ _ := RL.cell hpp hx0 (i := 3) (by decide) rfl
  obtain ⟨q4, f4⟩ : _ ∧ _ := RL.cell hpp hx0 (i := 4) (by decide) rfl
  obtain ⟨q5, f5⟩ : _ ∧ _ := RL.cell hpp hx0 (i := 5) (by decide) rfl
  simp only [show slRL.n = 6 from rfl, Nat.add_zero] at q0 f0 q1 f1 q2 f2 q3 f3 q4 f4 q5 f5
  have gf := fun o => (RL.main hpp).frozenAt o
  have hgw : g < w.heap.size := World.block_lt_of_cell? w _ q0
  have HG0 := Lib.hid hgw
  have F0 := ((Fr.start w).alloc #[.int .i64 r.pits, .int .i64 r.seeds, .bool r.stores, .bool r.skip, .bool r.relay, .bool r.feed, .bool r.again, .int .i64 r.capture, .int .i64 r.slam, .slice (some ⟨g, 0, none⟩) n c] 52).allocF #[.bool x.used, .slice ka.qa x.pits.length ka.qc, .int .i64 x.player, .int .i64 x.depth, .int .i64 x.value, .int .i64 x.bound] 113
  simp only [World.size_alloc] at F0
  obtain ⟨W0, hW0⟩ : ∃ W, W = (w.alloc (.cells #[.int .i64 r.pits, .int .i64 r.seeds, .bool r.stores, .bool r.skip, .bool r.relay, .bool r.feed, .bool r.again, .int .i64 r.capture, .int .i64 r.slam, .slice (some ⟨g, 0, none⟩) n c] 52)).alloc (.cells #[.bool x.used, .slice ka.qa x.pits.length ka.qc, .int .i64 x.player, .int .i64 x.depth, .int .i64 x.value, .int .i64 x.bound] 113) := ⟨_, rfl⟩
  rw [← hW0] at F0
  have HZ0 : Hid (w.heap.size + 1 + 1 ≤ W0.heap.size) := F0.le 0 rfl
  have HC : Hid (∀ W, Below W0.heap.size W0 W → (W.cell? ⟨w.heap.size, 0, none⟩ = some (.int .i64 r.pits) ∧ W.cell? ⟨w.heap.size, 1, none⟩ = some (.int .i64 r.seeds) ∧ W.cell? ⟨w.heap.size, 2, none⟩ = some (.bool r.stores) ∧ W.cell? ⟨w.heap.size, 3, none⟩ = some (.bool r.skip) ∧ W.cell? ⟨w.heap.size, 4, none⟩ = some (.bool r.relay) ∧ W.cell? ⟨w.heap.size, 5, none⟩ = some (.bool r.feed) ∧ W.cell? ⟨w.heap.size, 6, none⟩ = some (.bool r.again) ∧ W.cell? ⟨w.heap.size, 7, none⟩ = some (.int .i64 r.capture) ∧ W.cell? ⟨w.heap.size, 8, none⟩ = some (.int .i64 r.slam) ∧ W.cell? ⟨w.heap.size, 9, none⟩ = some (.slice (some ⟨g, 0, none⟩) n c)) ∧ (W.cell? ⟨w.heap.size + 1, 0, none⟩ = some (.bool x.used) ∧ W.cell? ⟨w.heap.size + 1, 1, none⟩ = some (.slice ka.qa x.pits.length ka.qc) ∧ W.cell? ⟨w.heap.size + 1, 2, none⟩ = some (.int .i64 x.player) ∧ W.cell? ⟨w.heap.size + 1, 3, none⟩ = some (.int .i64 x.depth) ∧ W.cell? ⟨w.heap.size + 1, 4, none⟩ = some (.int .i64 x.value) ∧ W.cell? ⟨w.heap.size + 1, 5, none⟩ = some (.int .i64 x.bound)) ∧ BoxF (w.heap.size + 1) [.bool x.used, .slice ka.qa x.pits.length ka.qc, .int .i64 x.player, .int .i64 x.depth, .int .i64 x.value, .int .i64 x.bound] W ∧ (W.cell? ⟨g, k * 6, none⟩ = some (.bool (Sl.mk ou op opl odp ovl obd).used) ∧ W.cell? ⟨g, k * 6 + 1, none⟩ = some (.slice oA.qa (Sl.mk ou op opl odp ovl obd).pits.length oA.qc) ∧ W.cell? ⟨g, k * 6 + 2, none⟩ = some (.int .i64 (Sl.mk ou op opl odp ovl obd).player) ∧ W.cell? ⟨g, k * 6 + 3, none⟩ = some (.int .i64 (Sl.mk ou op opl odp ovl obd).depth) ∧ W.cell? ⟨g, k * 6 + 4, none⟩ = some (.int .i64 (Sl.mk ou op opl odp ovl obd).value) ∧ W.cell? ⟨g, k * 6 + 5, none⟩ = some (.int .i64 (Sl.mk ou op opl odp ovl obd).bound)) ∧ (∀ o, W.frozen? ⟨g, o, none⟩ = false) ∧ Ints W ka.qa x.pits ∧ Below w.heap.size w W ∧ g < W.heap.size) := fun W hW => by
    have F := F0.step hW
    have hc := (bcell F.below).1
    exact ⟨me_box (F.at 1 rfl), ⟨(F.at 0 rfl).1 0 _ rfl, (F.at 0 rfl).1 1 _ rfl, (F.at 0 rfl).1 2 _ rfl, (F.at 0 rfl).1 3 _ rfl, (F.at 0 rfl).1 4 _ rfl, (F.at 0 rfl).1 5 _ rfl⟩, F.at 0 rfl, ⟨(hc _ _ hgw).trans q0, (hc _ _ hgw).trans q1, (hc _ _ hgw).trans q2, (hc _ _ hgw).trans q3, (hc _ _ hgw).trans q4, (hc _ _ hgw).trans q5⟩, fun o => ((bcell F.below).2 _ o hgw).trans (gf o), hit.below F.below (Nat.le_refl _), F.below, by have := F.below.size; omega⟩
  simp only at HC
  have HW0 := Lib.hid hW0
  have HPP := Lib.hid (fun (w7 : World) (ta : Option Addr) (tc : Nat) (h7 : Ints w7 ka.qa x.pits) => place_c r (some ⟨g, 0, none⟩) c n x.key ka.qa ta ka.qc tc w7 h7 hxm hpl hb hl)
  have HKN : Hid (hashP x.pits x.player n = (k : Int)) := by unfold Hid; rw [hn]; exact hk
  obtain ⟨hM0, hS0, _, _, _, _, hBw0, _⟩ := HC.out W0 (Below.refl _ _)
  have HMS := Lib.hid (And.intro hM0 hS0)
  rw [← hn]
  clear hpp hx0 hk hn hp hit hb hpl f0 f1 f2 f3 f4 f5 q0 q1 q2 q3 q4 q5 gf hW0 F0 hM0 hS0 hBw0
  go_enter Try.func83, Try.ntmps83
  go_upto_region 1 with fail
  rw [← HW0.out]
  refine heldH (S := fun V => (V.cell? ⟨w.heap.size, 0, none⟩ = some (.int .i64 r.pits) ∧ V.cell? ⟨w.heap.size, 1, none⟩ = some (.int .i64 r.seeds) ∧ V.cell? ⟨w.heap.size, 2, none⟩ = some (.bool r.stores) ∧ V.cell? ⟨w.heap.size, 3, none⟩ = some (.bool r.skip) ∧ V.cell? ⟨w.heap.size, 4, none⟩ = some (.bool r.relay) ∧ V.cell? ⟨w.heap.size, 5, none⟩ = some (.bool r.feed) ∧ V.cell? ⟨w.heap.size, 6, none⟩ = some (.bool r.again) ∧ V.cell? ⟨w.heap.size, 7, none⟩ = some (.int .i64 r.capture) ∧ V.cell? ⟨w.heap.size, 8, none⟩ = some (.int .i64 r.slam) ∧ V.cell? ⟨w.heap.size, 9, none⟩ = some (.slice (some ⟨g, 0, none⟩) n c)) ∧ (V.cell? ⟨w.heap.size + 1, 0, none⟩ = some (.bool x.used) ∧ V.cell? ⟨w.heap.size + 1, 1, none⟩ = some (.slice ka.qa x.pits.length ka.qc) ∧ V.cell? ⟨w.heap.size + 1, 2, none⟩ = some (.int .i64 x.player) ∧ V.cell? ⟨w.heap.size + 1, 3, none⟩ = some (.int .i64 x.depth) ∧ V.cell? ⟨w.heap.size + 1, 4, none⟩ = some (.int .i64 x.value) ∧ V.cell? ⟨w.heap.size + 1, 5, none⟩ = some (.int .i64 x.bound))) (n := 5) (listed := #[false, false, false, false, false]) (by kernel_rfl) (by rfl) (by rfl) ?_ (fun hHeld => ?_)
  (focus ((try dsimp only); (first | done | ((first | exact hk4 | exact hk3 | exact HMS.out); done))))
  (refine takeH (i := 0) (v := ?_) (by decide +kernel) (by decide +kernel) (by kernel_rfl) (by rfl) (by exact fun _ _ _ h => h) (by rfl) ?_ (by assumption) ?_); rotate_left; (focus (intro w hSw; (try dsimp only at hSw); go_simp; (try with_reducible rfl); done)); (try simp only [Act.put, List.setIfInBounds_toArray, List.set_cons_zero, List.set_cons_succ])
  (refine takeH (i := 1) (v := ?_) (by decide +kernel) (by decide +kernel) (by kernel_rfl) (by rfl) (by exact fun _ _ _ h => h) (by rfl) ?_ (by assumption) ?_); rotate_left; (focus (intro w hSw; (try dsimp only at hSw); go_simp; (try with_reducible rfl); done)); (try simp only [Act.put, List.setIfInBounds_toArray, List.set_cons_zero, List.set_cons_succ])
  refine nextH (i := 2) (by decide +kernel) (by rfl) (by rfl) (fun K hK => ?_)
  (go_simp; go_at_call 133; (refine (position_c x ka _).mono ?_); (rintro e w3 ⟨sa, sc, rfl, hs3, hb3⟩); (have HB3 := Lib.hid (below_next (Below.refl W0.heap.size W0).drew hb3)); (have hk3 := (⟨(HC.out _ HB3.out).1, (HC.out _ HB3.out).2.1⟩ : _ ∧ _)))
  refine hK.out _ _ ?_ (fun hHeld' => ?_)
  (focus ((try dsimp only); (first | done | ((first | exact hk4 | exact hk3 | exact HMS.out); done))))
  clear hK K hHeld
  have hHeld := hHeld'
  clear hHeld'
  (try simp only [Act.put, List.setIfInBounds_toArray, List.set_cons_zero, List.set_cons_succ])
  refine nextH (i := 3) (by decide +kernel) (by rfl) (by rfl) (fun K hK => ?_)
  (go_simp; go_at_call 132; (have HPL := HPP.out w3 sa sc (HC.out _ HB3.out).2.2.2.2.2.1); (have hkk := HKN.out); (have hke : hashP x.key.pits x.key.player n = (k : Int) := hkk); rw [hke] at HPL; clear hkk hke; (refine HPL.mono ?_); (rintro e w4 ⟨rfl, hb4⟩); (have HB4 := Lib.hid (below_next HB3.out hb4)); (have hk4 := (⟨(HC.out _ HB4.out).1, (HC.out _ HB4.out).2.1⟩ : _ ∧ _)))
  refine hK.out _ _ ?_ (fun hHeld' => ?_)
  (focus ((try dsimp only); (first | done | ((first | exact hk4 | exact hk3 | exact HMS.out); done))))
  clear hK K hHeld
  have hHeld := hHeld'
  clear hHeld'
  (try simp only [Act.put, List.setIfInBounds_toArray, List.set_cons_zero, List.set_cons_succ])
  (refine takeH (i := 4) (v := ?_) (by decide +kernel) (by decide +kernel) (by kernel_rfl) (by rfl) (by exact fun _ _ _ h => h) (by rfl) ?_ (by assumption) ?_); rotate_left; (focus (intro w hSw; (try dsimp only at hSw); go_simp; (try with_reducible rfl); done)); (try simp only [Act.put, List.setIfInBounds_toArray, List.set_cons_zero, List.set_cons_succ])
  refine wpAnyH_done (by decide +kernel) ?_ _
  clear hHeld hk3 hk4 hb3 hb4 hs3 HPP HMS
  go_upto_region 2 with fail
  obtain ⟨hM4, _, _, ⟨q0, q1, q2, q3, q4, q5⟩, _, _, _, hg4⟩ := HC.out w4 HB4.out
  obtain ⟨c0, c1, c2, c3, c4, c5, c6, c7, c8, c9⟩ := hM4
  cases ou
  case false =>
    obtain ⟨V, hV⟩ : ∃ V, V = w4.alloc (.cells #[.bool false, .slice oA.qa op.length oA.qc, .int .i64 opl, .int .i64 odp, .int .i64 ovl, .int .i64 obd] 113) := ⟨_, rfl⟩
    have hbV : Below W0.heap.size W0 V := by rw [hV]; exact below_next HB4.out (below_alloc1 _ _)
    have HBV := Lib.hid hbV
    have FV := (Fr.start w4).alloc #[.bool false, .slice oA.qa op.length oA.qc, .int .i64 opl, .int .i64 odp, .int .i64 ovl, .int .i64 obd] 113
    rw [← hV] at FV
    have HO4 := Lib.hid (FV.at 0 rfl)
    obtain ⟨t0, t3⟩ := (⟨HO4.out 0 _ rfl, HO4.out 3 _ rfl⟩ : _ ∧ _)
    obtain ⟨_, hSV, _, _, hfV, hIV, hBV, _⟩ := HC.out V hbV
    obtain ⟨x0, x1, x2, x3, x4, x5⟩ := hSV
    have HQC := Lib.hid (copyNumbers_c ka.qa ka.qc x.pits V hIV (by omega))
    have HV := Lib.hid hV
    clear hV hbV FV hfV hIV hBV
    go_upto_region 3 with fail
    clear q0 q1 q2 q3 q4 q5
    rw [← HV.out]
    clear HV
    go_wp2_with fail
    refine HQC.out.mono ?_
    rintro e w5 ⟨qa', qc', rfl, ho5, hb5⟩
    have hb50 := below_next HBV.out hb5
    obtain ⟨_, _, hX5, _, _, _, hBw5, _⟩ := HC.out w5 hb50
    have B6 := hX5.put (j0 := 1) (by simp) (.slice qa' x.pits.length qc')
    have f5 := hX5.2
    have p1 : w5.cell? ⟨w.heap.size + 1, 1, none⟩ = some (.slice ka.qa x.pits.length ka.qc) := hX5.1 1 _ rfl
    have hb6 : Below w.heap.size w (w5.setCell ⟨w.heap.size + 1, 1, none⟩ (.slice qa' x.pits.length qc')) := hBw5.setCell (Nat.le_succ _) _
    have ho6 : OwnI (w5.setCell ⟨w.heap.size + 1, 1, none⟩ (.slice qa' x.pits.length qc')) w.heap.size qa' qc' x.pits := ownsRow_le (ownsRow_setCell_below (base := V.heap.size) ho5 (show w.heap.size + 1 < V.heap.size by have := HBV.out.size; have := HZ0.out; omega) _) (by have := HBV.out.size; have := HZ0.out; omega)
    obtain ⟨W6, hW6⟩ : ∃ W, W = w5.setCell ⟨w.heap.size + 1, 1, none⟩ (.slice qa' x.pits.length qc') := ⟨_, rfl⟩
    rw [← hW6] at B6 hb6 ho6
    have hm6 : ∀ o, W6.cell? ⟨w.heap.size, o, none⟩ = w5.cell? ⟨w.heap.size, o, none⟩ := fun o => by rw [hW6]; exact cell_other (by omega)
    have hg6 : ∀ o, W6.cell? ⟨g, o, none⟩ = w5.cell? ⟨g, o, none⟩ := fun o => by rw [hW6]; exact cell_other (by have := HG0.out; omega)
    have hgf6 : ∀ o, W6.frozen? ⟨g, o, none⟩ = w5.frozen? ⟨g, o, none⟩ := fun o => by rw [hW6]; simp
    obtain ⟨hM5, _, _, hO5, hF5, _, _, hgz⟩ := HC.out w5 hb50
    have m9 : W6.cell? ⟨w.heap.size, 9, none⟩ = some (.slice (some ⟨g, 0, none⟩) n c) := (hm6 9).trans hM5.2.2.2.2.2.2.2.2.2
    obtain ⟨q0, q1, q2, q3, q4, q5⟩ : (W6.cell? ⟨g, k * 6, none⟩ = some (.bool (Sl.mk false op opl odp ovl obd).used) ∧ W6.cell? ⟨g, k * 6 + 1, none⟩ = some (.slice oA.qa (Sl.mk false op opl odp ovl obd).pits.length oA.qc) ∧ W6.cell? ⟨g, k * 6 + 2, none⟩ = some (.int .i64 (Sl.mk false op opl odp ovl obd).player) ∧ W6.cell? ⟨g, k * 6 + 3, none⟩ = some (.int .i64 (Sl.mk false op opl odp ovl obd).depth) ∧ W6.cell? ⟨g, k * 6 + 4, none⟩ = some (.int .i64 (Sl.mk false op opl odp ovl obd).value) ∧ W6.cell? ⟨g, k * 6 + 5, none⟩ = some (.int .i64 (Sl.mk false op opl odp ovl obd).bound)) := ⟨(hg6 _).trans hO5.1, (hg6 _).trans hO5.2.1, (hg6 _).trans hO5.2.2.1, (hg6 _).trans hO5.2.2.2.1, (hg6 _).trans hO5.2.2.2.2.1, (hg6 _).trans hO5.2.2.2.2.2⟩
    simp only at q0 q1 q2 q3 q4 q5
    have gf : ∀ o, W6.frozen? ⟨g, o, none⟩ = false := fun o => (hgf6 o).trans (hF5 o)
    obtain ⟨t0, t1, t2, t3, t4, t5⟩ : (W6.cell? ⟨w.heap.size + 1, 0, none⟩ = some (.bool x.used) ∧ W6.cell? ⟨w.heap.size + 1, 1, none⟩ = some (.slice (SA.mk qa' qc').qa x.pits.length (SA.mk qa' qc').qc) ∧ W6.cell? ⟨w.heap.size + 1, 2, none⟩ = some (.int .i64 x.player) ∧ W6.cell? ⟨w.heap.size + 1, 3, none⟩ = some (.int .i64 x.depth) ∧ W6.cell? ⟨w.heap.size + 1, 4, none⟩ = some (.int .i64 x.value) ∧ W6.cell? ⟨w.heap.size + 1, 5, none⟩ = some (.int .i64 x.bound)) := ⟨B6.1 0 _ rfl, B6.1 1 _ rfl, B6.1 2 _ rfl, B6.1 3 _ rfl, B6.1 4 _ rfl, B6.1 5 _ rfl⟩
    simp only at t1
    have HPUT := Lib.hid (store_put (A := ⟨qa', qc'⟩) HPC.out HK.out HX0.out (fun h => by cases h.1) hb6 ho6)
    have HW6 := Lib.hid hW6
    clear hb6 ho6 B6 hm6 hg6 hgf6 hM5 hO5 hF5 hX5 hBw5 hW6 ho5 hb5 hb50 x0 x1 x2 x3 x4 x5 hgz
    go_upto_region 5 with fail
    rw [← HW6.out]
    clear HW6 p1 f5
    go_wp2
    go_end0
    exact ⟨rfl, HPUT.out⟩
  case true =>
    obtain ⟨V, hV⟩ : ∃ V, V = w4.alloc (.cells #[.bool true, .slice oA.qa op.length oA.qc, .int .i64 opl, .int .i64 odp, .int .i64 ovl, .int .i64 obd] 113) := ⟨_, rfl⟩
    have hbV : Below W0.heap.size W0 V := by rw [hV]; exact below_next HB4.out (below_alloc1 _ _)
    have HBV := Lib.hid hbV
    have FV := (Fr.start w4).alloc #[.bool true, .slice oA.qa op.length oA.qc, .int .i64 opl, .int .i64 odp, .int .i64 ovl, .int .i64 obd] 113
    rw [← hV] at FV
    have HO4 := Lib.hid (FV.at 0 rfl)
    obtain ⟨t0, t3⟩ := (⟨HO4.out 0 _ rfl, HO4.out 3 _ rfl⟩ : _ ∧ _)
    obtain ⟨_, hSV, _, _, hfV, hIV, hBV, _⟩ := HC.out V hbV
    obtain ⟨x0, x1, x2, x3, x4, x5⟩ := hSV
    have HQC := Lib.hid (copyNumbers_c ka.qa ka.qc x.pits V hIV (by omega))
    have HV := Lib.hid hV
    clear hV hbV FV hfV hIV hBV
    go_upto_region 3 with fail
    clear q0 q1 q2 q3 q4 q5
    rw [← HV.out]
    clear HV
    by_cases hd : odp ≤ x.depth
    rotate_left
    · have HKP := Lib.hid (store_keep HPC.out HK.out HX0.out rfl (show x.depth < odp by omega) (HC.out V HBV.out).2.2.2.2.2.2.1)
      go_wp2
      go_end0
      exact ⟨rfl, HKP.out⟩
    have HD := Lib.hid hd
    go_wp2_with fail
    refine HQC.out.mono ?_
    rintro e w5 ⟨qa', qc', rfl, ho5, hb5⟩
    have hb50 := below_next HBV.out hb5
    obtain ⟨_, _, hX5, _, _, _, hBw5, _⟩ := HC.out w5 hb50
    have B6 := hX5.put (j0 := 1) (by simp) (.slice qa' x.pits.length qc')
    have f5 := hX5.2
    have p1 : w5.cell? ⟨w.heap.size + 1, 1, none⟩ = some (.slice ka.qa x.pits.length ka.qc) := hX5.1 1 _ rfl
    have hb6 : Below w.heap.size w (w5.setCell ⟨w.heap.size + 1, 1, none⟩ (.slice qa' x.pits.length qc')) := hBw5.setCell (Nat.le_succ _) _
    have ho6 : OwnI (w5.setCell ⟨w.heap.size + 1, 1, none⟩ (.slice qa' x.pits.length qc')) w.heap.size qa' qc' x.pits := ownsRow_le (ownsRow_setCell_below (base := V.heap.size) ho5 (show w.heap.size + 1 < V.heap.size by have := HBV.out.size; have := HZ0.out; omega) _) (by have := HBV.out.size; have := HZ0.out; omega)
    obtain ⟨W6, hW6⟩ : ∃ W, W = w5.setCell ⟨w.heap.size + 1, 1, none⟩ (.slice qa' x.pits.length qc') := ⟨_, rfl⟩
    rw [← hW6] at B6 hb6 ho6
    have hm6 : ∀ o, W6.cell? ⟨w.heap.size, o, none⟩ = w5.cell? ⟨w.heap.size, o, none⟩ := fun o => by rw [hW6]; exact cell_other (by omega)
    have hg6 : ∀ o, W6.cell? ⟨g, o, none⟩ = w5.cell? ⟨g, o, none⟩ := fun o => by rw [hW6]; exact cell_other (by have := HG0.out; omega)
    have hgf6 : ∀ o, W6.frozen? ⟨g, o, none⟩ = w5.frozen? ⟨g, o, none⟩ := fun o => by rw [hW6]; simp
    obtain ⟨hM5, _, _, hO5, hF5, _, _, hgz⟩ := HC.out w5 hb50
    have m9 : W6.cell? ⟨w.heap.size, 9, none⟩ = some (.slice (some ⟨g, 0, none⟩) n c) := (hm6 9).trans hM5.2.2.2.2.2.2.2.2.2
    obtain ⟨q0, q1, q2, q3, q4, q5⟩ : (W6.cell? ⟨g, k * 6, none⟩ = some (.bool (Sl.mk true op opl odp ovl obd).used) ∧ W6.cell? ⟨g, k * 6 + 1, none⟩ = some (.slice oA.qa (Sl.mk true op opl odp ovl obd).pits.length oA.qc) ∧ W6.cell? ⟨g, k * 6 + 2, none⟩ = some (.int .i64 (Sl.mk true op opl odp ovl obd).player) ∧ W6.cell? ⟨g, k * 6 + 3, none⟩ = some (.int .i64 (Sl.mk true op opl odp ovl obd).depth) ∧ W6.cell? ⟨g, k * 6 + 4, none⟩ = some (.int .i64 (Sl.mk true op opl odp ovl obd).value) ∧ W6.cell? ⟨g, k * 6 + 5, none⟩ = some (.int .i64 (Sl.mk true op opl odp ovl obd).bound)) := ⟨(hg6 _).trans hO5.1, (hg6 _).trans hO5.2.1, (hg6 _).trans hO5.2.2.1, (hg6 _).trans hO5.2.2.2.1, (hg6 _).trans hO5.2.2.2.2.1, (hg6 _).trans hO5.2.2.2.2.2⟩
    simp only at q0 q1 q2 q3 q4 q5
    have gf : ∀ o, W6.frozen? ⟨g, o, none⟩ = false := fun o => (hgf6 o).trans (hF5 o)
    obtain ⟨t0, t1, t2, t3, t4, t5⟩ : (W6.cell? ⟨w.heap.size + 1, 0, none⟩ = some (.bool x.used) ∧ W6.cell? ⟨w.heap.size + 1, 1, none⟩ = some (.slice (SA.mk qa' qc').qa x.pits.length (SA.mk qa' qc').qc) ∧ W6.cell? ⟨w.heap.size + 1, 2, none⟩ = some (.int .i64 x.player) ∧ W6.cell? ⟨w.heap.size + 1, 3, none⟩ = some (.int .i64 x.depth) ∧ W6.cell? ⟨w.heap.size + 1, 4, none⟩ = some (.int .i64 x.value) ∧ W6.cell? ⟨w.heap.size + 1, 5, none⟩ = some (.int .i64 x.bound)) := ⟨B6.1 0 _ rfl, B6.1 1 _ rfl, B6.1 2 _ rfl, B6.1 3 _ rfl, B6.1 4 _ rfl, B6.1 5 _ rfl⟩
    simp only at t1
    have HPUT := Lib.hid (store_put (A := ⟨qa', qc'⟩) HPC.out HK.out HX0.out (fun h => by have h1 := HD.out; have h2 : x.depth < odp := h.2; omega) hb6 ho6)
    have HW6 := Lib.hid hW6
    clear hb6 ho6 B6 hm6 hg6 hgf6 hM5 hO5 hF5 hX5 hBw5 hW6 ho5 hb5 hb50 x0 x1 x2 x3 x4 x5 hgz
    go_upto_region 5 with fail
    rw [← HW6.out]
    clear HW6 p1 f5
    go_wp2
    go_end0
    exact ⟨rfl, HPUT.out⟩
end Go.Proofs.Ytbjgigdkbjabaaa
