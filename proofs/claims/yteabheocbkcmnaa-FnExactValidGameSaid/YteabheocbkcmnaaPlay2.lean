/- Play2: the positions of a game: the program's function. The contract holds for every argument, under the premises that it states. -/
import Derived.Test.YteabheocbkcmnaaPlay
import Derived.Test.YteabheocbkcmnaaGame
namespace Go.Proofs.Yteabheocbkcmnaa
set_option linter.unusedSimpArgs false
set_option linter.unusedVariables false
set_option linter.unnecessarySimpa false
open Go.RowKit Go.ChangeShapes Go.WideShapes Go.ChangeAt Go.Joins

/-- only blocks o and m have turned -/
structure Ch2 (o m : Nat) (a b : World) : Prop where
  size : a.heap.size ≤ b.heap.size
  block : ∀ k, k < a.heap.size → ¬ k = o → ¬ k = m → b.heap[k]? = a.heap[k]?
theorem Ch2.below {o m : Nat} {a b c : World} (h : Ch2 o m a b) (hb : Below b.heap.size b c) : Ch2 o m a c :=
  ⟨Nat.le_trans h.size hb.size, fun k hk h1 h2 => (hb.block k (Nat.lt_of_lt_of_le hk h.size)).trans (h.block k hk h1 h2)⟩
theorem Ch2.alloc {o m : Nat} {a b : World} (h : Ch2 o m a b) (xs : Array Value) (t : TypeId) : Ch2 o m a (b.alloc (.cells xs t)) := h.below (below_alloc1 _ _)
theorem Ch2.refl (o m : Nat) (a : World) : Ch2 o m a a := ⟨Nat.le_refl _, fun _ _ _ _ => rfl⟩
theorem Ch2.grown1 {o m : Nat} {a b c : World} (h : Ch2 o m a b) (hg : b.grownBy c (some o)) : Ch2 o m a c :=
  ⟨Nat.le_trans h.size hg.size, fun k hk h1 h2 => (hg.block k (Nat.lt_of_lt_of_le hk h.size) (fun e => h1 (by cases e; rfl))).trans (h.block k hk h1 h2)⟩
theorem Ch2.grown2 {o m : Nat} {a b c : World} (h : Ch2 o m a b) (hg : b.grownBy c (some m)) : Ch2 o m a c :=
  ⟨Nat.le_trans h.size hg.size, fun k hk h1 h2 => (hg.block k (Nat.lt_of_lt_of_le hk h.size) (fun e => h2 (by cases e; rfl))).trans (h.block k hk h1 h2)⟩
theorem Ch2.cell {o m b j : Nat} {a c : World} {v : Value} (h : Ch2 o m a c) (hc : a.cell? ⟨b, j, none⟩ = some v) (h1 : ¬ b = o) (h2 : ¬ b = m) : c.cell? ⟨b, j, none⟩ = some v :=
  cell_stab hc (h.block b (World.block_lt_of_cell? a _ hc) h1 h2)

/-- a round over the moves of a game -/
structure PdSt (w wr : World) (y : G) (GC : List Value) (tgt : Option P) (k : Nat) (q : P) (A C : A2) (og oc gg gc B ql qh cl ch : Nat) (us gs : List Value) : Prop where
  kl : k ≤ y.moves.length
  go : runGo y.rules q (y.moves.drop k) = tgt
  fr : Frd w wr [⟨og, og + 1, RowB og 27 3 (k + 1) oc (us ++ (q.cells C.pa C.pc C.sa C.sc).toList)⟩, ⟨gg, gg + 1, RowB gg 107 6 k gc gs⟩, ⟨B, B + 1, Bx B (q.cells A.pa A.pc A.sa A.sc).toList⟩, ⟨ql, qh, RowsP ql qh q A⟩, ⟨cl, ch, RowsP cl ch q C⟩, ⟨w.heap.size, w.heap.size + 1, BoxP w.heap.size GC⟩]
  dis : w.heap.size < og ∧ w.heap.size < gg ∧ w.heap.size < B
  ul : us.length = k * 3
  m1 : q.pits.length ≤ 16777216
  m2 : q.stores.length ≤ 16777216
  hc : q.pits.length ≤ A.pc
  hcm : A.pc ≤ maxLen

set_option maxRecDepth 100000 in
set_option maxHeartbeats 8000000 in
theorem played_c (y : G) (GK : GA) (w : World) (h : GRow w y GK) (hml : y.moves.length ≤ 120) (m1 : y.start.pits.length ≤ 16777216) (m2 : y.start.stores.length ≤ 16777216) (hc : y.start.pits.length ≤ GK.s.pc) (hcm : GK.s.pc ≤ maxLen) :
    Calls Try.prog 88 #[y.val GK] w fun e w' => ∃ oa on oc ga gn gc, e = .returned (.tuple #[.slice oa on oc, .slice ga gn gc, .bool (runGo y.rules y.start y.moves).isSome]) ∧ PlayRes (runGo y.rules y.start y.moves) w' oa on ∧ Below w.heap.size w w' := by
  obtain ⟨i3, j3, z30, z31, z32⟩ := info_parts3 infoP3
  obtain ⟨i6, j6, z60, z61, z62⟩ := info_parts6 infoM
  obtain ⟨t, ht⟩ : ∃ t, t = runGo y.rules y.start y.moves := ⟨_, rfl⟩
  rw [← ht]
  have F0 : Frd w (w.alloc (.cells #[.int .i64 y.rules.pits, .int .i64 y.rules.seeds, .bool y.rules.stores, .bool y.rules.skip, .bool y.rules.relay, .bool y.rules.feed, .bool y.rules.again, .int .i64 y.rules.capture, .int .i64 y.rules.slam, .slice GK.s.pa y.start.pits.length GK.s.pc, .slice GK.s.sa y.start.stores.length GK.s.sc, .int .i64 y.start.player, .slice GK.ma y.moves.length GK.mc, .slice GK.n.pa y.now.pits.length GK.n.pc, .slice GK.n.sa y.now.stores.length GK.n.sc, .int .i64 y.now.player, .int .i64 y.res] 29)) [⟨0, w.heap.size, RowsP 0 w.heap.size y.start GK.s⟩, ⟨w.heap.size, w.heap.size + 1, BoxP w.heap.size (y.cells GK).toList⟩] := by
    have f1 := ((Fr.start w).rows (RowsP.arg (A := GK.s) h.start) (Nat.le_refl _)).alloc (y.cells GK) 29
    exact ⟨f1.swap, List.pairwise_cons.2 ⟨fun r hr => .inl (by simp at hr; subst hr; exact Nat.le_refl _), List.pairwise_singleton _ _⟩⟩
  have HT := Lib.hid ht
  have HH := Lib.hid h
  have HX := F0.at 1 rfl
  have c9 := HX 9 _ rfl
  have c10 := HX 10 _ rfl
  have c11 := HX 11 _ rfl
  have HF0 := Lib.hid F0
  clear ht h F0
  go_enter Try.func88, Try.ntmps88
  go_upto_region 1 with fail
  go_cut [1, 5, 6, 7] from 2 to 49 (fun s1 s5 s6 s7 wx => ∃ (C : A2) (og oc gg gc B ql qh cl ch : Nat), s1 = .pointer (some ⟨w.heap.size, 0, none⟩) ∧ s5 = .pointer (some ⟨B, 0, none⟩) ∧ s6 = .slice (some ⟨og, 0, none⟩) 1 oc ∧ s7 = .slice (some ⟨gg, 0, none⟩) 0 gc ∧ PdSt w wx y (y.cells GK).toList t 0 y.start GK.s C og oc gg gc B ql qh cl ch [] [])
  case first =>
    have HSK : Hid (∀ W, BoxP w.heap.size (y.cells GK).toList W → (W.cell? ⟨w.heap.size, 9, none⟩ = some (.slice GK.s.pa y.start.pits.length GK.s.pc) ∧ W.cell? ⟨w.heap.size, 10, none⟩ = some (.slice GK.s.sa y.start.stores.length GK.s.sc) ∧ W.cell? ⟨w.heap.size, 11, none⟩ = some (.int .i64 y.start.player))) := fun W hW => ⟨hW 9 _ rfl, hW 10 _ rfl, hW 11 _ rfl⟩
    have HF := Lib.hid HF0.out.drew
    have z0 : w.heap.size + 1 ≤ (w.alloc (.cells #[.int .i64 y.rules.pits, .int .i64 y.rules.seeds, .bool y.rules.stores, .bool y.rules.skip, .bool y.rules.relay, .bool y.rules.feed, .bool y.rules.again, .int .i64 y.rules.capture, .int .i64 y.rules.slam, .slice GK.s.pa y.start.pits.length GK.s.pc, .slice GK.s.sa y.start.stores.length GK.s.sc, .int .i64 y.start.player, .slice GK.ma y.moves.length GK.mc, .slice GK.n.pa y.now.pits.length GK.n.pc, .slice GK.n.sa y.now.stores.length GK.n.sc, .int .i64 y.now.player, .int .i64 y.res] 29)).drew.heap.size := by simp
    clear HF0 c9 c10 c11 HX
    generalize hwa : w.alloc (Obj.cells _ _) = WA at HF z0 ⊢
    clear hwa
    refine heldH (S := fun W => W.cell? ⟨w.heap.size, 9, none⟩ = some (.slice GK.s.pa y.start.pits.length GK.s.pc) ∧ W.cell? ⟨w.heap.size, 10, none⟩ = some (.slice GK.s.sa y.start.stores.length GK.s.sc) ∧ W.cell? ⟨w.heap.size, 11, none⟩ = some (.int .i64 y.start.player)) (n := 11) (listed := #[false, false, false, false, false, false, false, false, false, false, false]) (by kernel_rfl) (by rfl) (by rfl) ?_ (fun hHeld => ?_)
    (focus ((try dsimp only); (first | done | ((exact HSK.out _ (HF.out.get (r := ⟨w.heap.size, w.heap.size + 1, BoxP w.heap.size (y.cells GK).toList⟩) (by (repeat (first | exact List.mem_cons_self | apply List.mem_cons_of_mem))))); done))))
    (generalize hwa : WA.drew = WC at HF z0 hHeld ⊢); clear hwa
    (refine takeH (i := 0) (v := ?_) (by decide +kernel) (by decide +kernel) (by kernel_rfl) (by rfl) (by exact fun _ _ _ h => h) (by rfl) ?_ (by assumption) ?_); rotate_left; (focus (intro w hSw; (try dsimp only at hSw); go_simp; (try with_reducible rfl); done)); (try simp only [Act.put, List.setIfInBounds_toArray, List.set_cons_zero, List.set_cons_succ])
    (refine takeH (i := 1) (v := ?_) (by decide +kernel) (by decide +kernel) (by kernel_rfl) (by rfl) (by exact fun _ _ _ h => h) (by rfl) ?_ (by assumption) ?_); rotate_left; (focus (intro w hSw; (try dsimp only at hSw); go_simp; (try with_reducible rfl); done)); (try simp only [Act.put, List.setIfInBounds_toArray, List.set_cons_zero, List.set_cons_succ])
    (refine takeH (i := 2) (v := ?_) (by decide +kernel) (by decide +kernel) (by kernel_rfl) (by rfl) (by exact fun _ _ _ h => h) (by rfl) ?_ (by assumption) ?_); rotate_left; (focus (intro w hSw; (try dsimp only at hSw); go_simp; (try with_reducible rfl); done)); (try simp only [Act.put, List.setIfInBounds_toArray, List.set_cons_zero, List.set_cons_succ])
    (refine takeH (i := 3) (v := ?_) (by decide +kernel) (by decide +kernel) (by kernel_rfl) (by rfl) (by exact fun _ _ _ h => h) (by rfl) ?_ (by assumption) ?_); rotate_left; (focus (intro w hSw; (try dsimp only at hSw); go_simp; (try with_reducible rfl); done)); (try simp only [Act.put, List.setIfInBounds_toArray, List.set_cons_zero, List.set_cons_succ])
    refine threeH (i := 4) (j := 6) (k := 7) (by decide +kernel) (by rfl) (by rfl) (by rfl) (by rfl) (by rfl) (by rfl) (fun K hK => ?_) (fun K hK => ?_) (fun K hK => ?_)
    (go_simp; go_at_call 85; (refine (copied_c y.start GK.s.pa GK.s.sa GK.s.pc GK.s.sc _ (HH.out.start.below HF.out.below (Nat.le_refl _)) m1 m2).mono ?_); (rintro e WC ⟨ca, cc, ta, tc, rfl, ho5, hb5⟩); (have HFM := HF.out.rows (A := ⟨ca, cc, ta, tc⟩) hb5 ho5); (have zM := hb5.size); (obtain ⟨cl, ch, hcl, hch, HFM⟩ : ∃ cl ch, cl = _ ∧ ch = WC.heap.size ∧ Frd w WC (⟨cl, ch, RowsP cl ch y.start ⟨ca, cc, ta, tc⟩⟩ :: _) := ⟨_, _, rfl, rfl, HFM⟩); (have zcl := Nat.le_of_eq hcl); (have zcl' := Nat.le_of_eq hcl.symm); (have zch := Nat.le_of_eq hch); clear hcl hch; (have HF := Lib.hid HFM); clear HFM ho5 hb5)
    refine hK.out _ _ ?_ (fun hHeld' => ?_)
    (focus ((try dsimp only); (first | done | ((exact HSK.out _ (HF.out.get (r := ⟨w.heap.size, w.heap.size + 1, BoxP w.heap.size (y.cells GK).toList⟩) (by (repeat (first | exact List.mem_cons_self | apply List.mem_cons_of_mem))))); done))))
    clear hK K hHeld
    have hHeld := hHeld'
    clear hHeld'
    (try simp only [Act.put, List.setIfInBounds_toArray, List.set_cons_zero, List.set_cons_succ])
    refine threeH (i := 5) (j := 6) (k := 7) (by decide +kernel) (by rfl) (by rfl) (by rfl) (by rfl) (by rfl) (by rfl) (fun K hK => ?_) (fun K hK => ?_) (fun K hK => ?_)
    (go_simp; refine gen_allocR HF.out #[.slice ca y.start.pits.length cc, .slice ta y.start.stores.length tc, .int .i64 y.start.player] 27 3 1 (by decide) rfl ?_; intro WC zM HFM; (have HF := Lib.hid HFM); clear HFM)
    refine hK.out _ _ ?_ (fun hHeld' => ?_)
    (focus ((try dsimp only); (first | done | ((exact HSK.out _ (HF.out.get (r := ⟨w.heap.size, w.heap.size + 1, BoxP w.heap.size (y.cells GK).toList⟩) (by (repeat (first | exact List.mem_cons_self | apply List.mem_cons_of_mem))))); done))))
    clear hK K hHeld
    have hHeld := hHeld'
    clear hHeld'
    (try simp only [Act.put, List.setIfInBounds_toArray, List.set_cons_zero, List.set_cons_succ])
    refine bothH (i := 6) (j := 7) (by decide +kernel) (by rfl) (by rfl) (by rfl) (by rfl) (fun K hK => ?_) (fun K hK => ?_)
    (go_simp; refine gen_allocR HF.out #[] 107 6 0 (by decide) rfl ?_; intro WC zM HFM; (have HF := Lib.hid HFM); clear HFM)
    refine hK.out _ _ ?_ (fun hHeld' => ?_)
    (focus ((try dsimp only); (first | done | ((exact HSK.out _ (HF.out.get (r := ⟨w.heap.size, w.heap.size + 1, BoxP w.heap.size (y.cells GK).toList⟩) (by (repeat (first | exact List.mem_cons_self | apply List.mem_cons_of_mem))))); done))))
    clear hK K hHeld
    have hHeld := hHeld'
    clear hHeld'
    (try simp only [Act.put, List.setIfInBounds_toArray, List.set_cons_zero, List.set_cons_succ])
    refine nextH (i := 7) (by decide +kernel) (by rfl) (by rfl) (fun K hK => ?_)
    (go_simp; refine gen_allocX HF.out #[.slice none 0 0, .slice none 0 0, .int .i64 0] 27 (by simp) ?_; intro WC zM HFM; (have HF := Lib.hid HFM); clear HFM)
    refine hK.out _ _ ?_ (fun hHeld' => ?_)
    (focus ((try dsimp only); (first | done | ((exact HSK.out _ (HF.out.get (r := ⟨w.heap.size, w.heap.size + 1, BoxP w.heap.size (y.cells GK).toList⟩) (by (repeat (first | exact List.mem_cons_self | apply List.mem_cons_of_mem))))); done))))
    clear hK K hHeld
    have hHeld := hHeld'
    clear hHeld'
    (try simp only [Act.put, List.setIfInBounds_toArray, List.set_cons_zero, List.set_cons_succ])
    refine nextH (i := 8) (by decide +kernel) (by rfl) (by rfl) (fun K hK => ?_)
    (first | (refine wp_store_frd HF.out 0 27 _ _ rfl (y.start.cells GK.s.pa GK.s.pc GK.s.sa GK.s.sc) rfl rfl rfl rfl (by simp [P.cells]) (by omega) (by kernel_rfl) (by simp [Value.oneCell', P.cells]) ?_; intro WC zM HFM; (have HF := Lib.hid HFM); clear HFM) | (refine wp_store_frd HF.out 1 27 _ _ rfl (y.start.cells GK.s.pa GK.s.pc GK.s.sa GK.s.sc) rfl rfl rfl rfl (by simp [P.cells]) (by omega) (by kernel_rfl) (by simp [Value.oneCell', P.cells]) ?_; intro WC zM HFM; (have HF := Lib.hid HFM); clear HFM) | (refine wp_store_frd HF.out 2 27 _ _ rfl (y.start.cells GK.s.pa GK.s.pc GK.s.sa GK.s.sc) rfl rfl rfl rfl (by simp [P.cells]) (by omega) (by kernel_rfl) (by simp [Value.oneCell', P.cells]) ?_; intro WC zM HFM; (have HF := Lib.hid HFM); clear HFM) | (refine wp_store_frd HF.out 3 27 _ _ rfl (y.start.cells GK.s.pa GK.s.pc GK.s.sa GK.s.sc) rfl rfl rfl rfl (by simp [P.cells]) (by omega) (by kernel_rfl) (by simp [Value.oneCell', P.cells]) ?_; intro WC zM HFM; (have HF := Lib.hid HFM); clear HFM))
    refine hK.out _ _ ?_ (fun hHeld' => ?_)
    (focus ((try dsimp only); (first | done | ((exact HSK.out _ (HF.out.get (r := ⟨w.heap.size, w.heap.size + 1, BoxP w.heap.size (y.cells GK).toList⟩) (by (repeat (first | exact List.mem_cons_self | apply List.mem_cons_of_mem))))); done))))
    clear hK K hHeld
    have hHeld := hHeld'
    clear hHeld'
    (try simp only [Act.put, List.setIfInBounds_toArray, List.set_cons_zero, List.set_cons_succ])
    (refine takeH (i := 9) (v := ?_) (by decide +kernel) (by decide +kernel) (by kernel_rfl) (by rfl) (by exact fun _ _ _ h => h) (by rfl) ?_ (by assumption) ?_); rotate_left; (focus (intro w hSw; (try dsimp only at hSw); go_simp; (try with_reducible rfl); done)); (try simp only [Act.put, List.setIfInBounds_toArray, List.set_cons_zero, List.set_cons_succ])
    (refine takeH (i := 10) (v := ?_) (by decide +kernel) (by decide +kernel) (by kernel_rfl) (by rfl) (by exact fun _ _ _ h => h) (by rfl) ?_ (by assumption) ?_); rotate_left; (focus (intro w hSw; (try dsimp only at hSw); go_simp; (try with_reducible rfl); done)); (try simp only [Act.put, List.setIfInBounds_toArray, List.set_cons_zero, List.set_cons_succ])
    refine wpAnyH_done (by decide +kernel) ?_ _
    rotate_left
    (go_simp; refine gen_allocX HF.out #[.slice none 0 0, .slice none 0 0, .int .i64 0] 27 (by simp) ?_; intro WC zM HFM; (have HF := Lib.hid HFM); clear HFM)
    refine hK.out _ _ ?_ (fun hHeld' => ?_)
    (focus ((try dsimp only); (first | done | ((exact HSK.out _ (HF.out.get (r := ⟨w.heap.size, w.heap.size + 1, BoxP w.heap.size (y.cells GK).toList⟩) (by (repeat (first | exact List.mem_cons_self | apply List.mem_cons_of_mem))))); done))))
    clear hK K hHeld
    have hHeld := hHeld'
    clear hHeld'
    (try simp only [Act.put, List.setIfInBounds_toArray, List.set_cons_zero, List.set_cons_succ])
    refine bothH (i := 6) (j := 8) (by decide +kernel) (by rfl) (by rfl) (by rfl) (by rfl) (fun K hK => ?_) (fun K hK => ?_)
    (go_simp; refine gen_allocR HF.out #[] 107 6 0 (by decide) rfl ?_; intro WC zM HFM; (have HF := Lib.hid HFM); clear HFM)
    refine hK.out _ _ ?_ (fun hHeld' => ?_)
    (focus ((try dsimp only); (first | done | ((exact HSK.out _ (HF.out.get (r := ⟨w.heap.size, w.heap.size + 1, BoxP w.heap.size (y.cells GK).toList⟩) (by (repeat (first | exact List.mem_cons_self | apply List.mem_cons_of_mem))))); done))))
    clear hK K hHeld
    have hHeld := hHeld'
    clear hHeld'
    (try simp only [Act.put, List.setIfInBounds_toArray, List.set_cons_zero, List.set_cons_succ])
    refine nextH (i := 8) (by decide +kernel) (by rfl) (by rfl) (fun K hK => ?_)
    (first | (refine wp_store_frd HF.out 0 27 _ _ rfl (y.start.cells GK.s.pa GK.s.pc GK.s.sa GK.s.sc) rfl rfl rfl rfl (by simp [P.cells]) (by omega) (by kernel_rfl) (by simp [Value.oneCell', P.cells]) ?_; intro WC zM HFM; (have HF := Lib.hid HFM); clear HFM) | (refine wp_store_frd HF.out 1 27 _ _ rfl (y.start.cells GK.s.pa GK.s.pc GK.s.sa GK.s.sc) rfl rfl rfl rfl (by simp [P.cells]) (by omega) (by kernel_rfl) (by simp [Value.oneCell', P.cells]) ?_; intro WC zM HFM; (have HF := Lib.hid HFM); clear HFM) | (refine wp_store_frd HF.out 2 27 _ _ rfl (y.start.cells GK.s.pa GK.s.pc GK.s.sa GK.s.sc) rfl rfl rfl rfl (by simp [P.cells]) (by omega) (by kernel_rfl) (by simp [Value.oneCell', P.cells]) ?_; intro WC zM HFM; (have HF := Lib.hid HFM); clear HFM) | (refine wp_store_frd HF.out 3 27 _ _ rfl (y.start.cells GK.s.pa GK.s.pc GK.s.sa GK.s.sc) rfl rfl rfl rfl (by simp [P.cells]) (by omega) (by kernel_rfl) (by simp [Value.oneCell', P.cells]) ?_; intro WC zM HFM; (have HF := Lib.hid HFM); clear HFM))
    refine hK.out _ _ ?_ (fun hHeld' => ?_)
    (focus ((try dsimp only); (first | done | ((exact HSK.out _ (HF.out.get (r := ⟨w.heap.size, w.heap.size + 1, BoxP w.heap.size (y.cells GK).toList⟩) (by (repeat (first | exact List.mem_cons_self | apply List.mem_cons_of_mem))))); done))))
    clear hK K hHeld
    have hHeld := hHeld'
    clear hHeld'
    (try simp only [Act.put, List.setIfInBounds_toArray, List.set_cons_zero, List.set_cons_succ])
    (refine takeH (i := 9) (v := ?_) (by decide +kernel) (by decide +kernel) (by kernel_rfl) (by rfl) (by exact fun _ _ _ h => h) (by rfl) ?_ (by assumption) ?_); rotate_left; (focus (intro w hSw; (try dsimp only at hSw); go_simp; (try with_reducible rfl); done)); (try simp only [Act.put, List.setIfInBounds_toArray, List.set_cons_zero, List.set_cons_succ])
    (refine takeH (i := 10) (v := ?_) (by decide +kernel) (by decide +kernel) (by kernel_rfl) (by rfl) (by exact fun _ _ _ h => h) (by rfl) ?_ (by assumption) ?_); rotate_left; (focus (intro w hSw; (try dsimp only at hSw); go_simp; (try with_reducible rfl); done)); (try simp only [Act.put, List.setIfInBounds_toArray, List.set_cons_zero, List.set_cons_succ])
    refine wpAnyH_done (by decide +kernel) ?_ _
    rotate_left
    (first | (refine wp_store_frd HF.out 0 27 _ _ rfl (y.start.cells GK.s.pa GK.s.pc GK.s.sa GK.s.sc) rfl rfl rfl rfl (by simp [P.cells]) (by omega) (by kernel_rfl) (by simp [Value.oneCell', P.cells]) ?_; intro WC zM HFM; (have HF := Lib.hid HFM); clear HFM) | (refine wp_store_frd HF.out 1 27 _ _ rfl (y.start.cells GK.s.pa GK.s.pc GK.s.sa GK.s.sc) rfl rfl rfl rfl (by simp [P.cells]) (by omega) (by kernel_rfl) (by simp [Value.oneCell', P.cells]) ?_; intro WC zM HFM; (have HF := Lib.hid HFM); clear HFM) | (refine wp_store_frd HF.out 2 27 _ _ rfl (y.start.cells GK.s.pa GK.s.pc GK.s.sa GK.s.sc) rfl rfl rfl rfl (by simp [P.cells]) (by omega) (by kernel_rfl) (by simp [Value.oneCell', P.cells]) ?_; intro WC zM HFM; (have HF := Lib.hid HFM); clear HFM) | (refine wp_store_frd HF.out 3 27 _ _ rfl (y.start.cells GK.s.pa GK.s.pc GK.s.sa GK.s.sc) rfl rfl rfl rfl (by simp [P.cells]) (by omega) (by kernel_rfl) (by simp [Value.oneCell', P.cells]) ?_; intro WC zM HFM; (have HF := Lib.hid HFM); clear HFM))
    refine hK.out _ _ ?_ (fun hHeld' => ?_)
    (focus ((try dsimp only); (first | done | ((exact HSK.out _ (HF.out.get (r := ⟨w.heap.size, w.heap.size + 1, BoxP w.heap.size (y.cells GK).toList⟩) (by (repeat (first | exact List.mem_cons_self | apply List.mem_cons_of_mem))))); done))))
    clear hK K hHeld
    have hHeld := hHeld'
    clear hHeld'
    (try simp only [Act.put, List.setIfInBounds_toArray, List.set_cons_zero, List.set_cons_succ])
    (refine takeH (i := 9) (v := ?_) (by decide +kernel) (by decide +kernel) (by kernel_rfl) (by rfl) (by exact fun _ _ _ h => h) (by rfl) ?_ (by assumption) ?_); rotate_left; (focus (intro w hSw; (try dsimp only at hSw); go_simp; (try with_reducible rfl); done)); (try simp only [Act.put, List.setIfInBounds_toArray, List.set_cons_zero, List.set_cons_succ])
    refine nextH (i := 6) (by decide +kernel) (by rfl) (by rfl) (fun K hK => ?_)
    (go_simp; refine gen_allocR HF.out #[] 107 6 0 (by decide) rfl ?_; intro WC zM HFM; (have HF := Lib.hid HFM); clear HFM)
    refine hK.out _ _ ?_ (fun hHeld' => ?_)
    (focus ((try dsimp only); (first | done | ((exact HSK.out _ (HF.out.get (r := ⟨w.heap.size, w.heap.size + 1, BoxP w.heap.size (y.cells GK).toList⟩) (by (repeat (first | exact List.mem_cons_self | apply List.mem_cons_of_mem))))); done))))
    clear hK K hHeld
    have hHeld := hHeld'
    clear hHeld'
    (try simp only [Act.put, List.setIfInBounds_toArray, List.set_cons_zero, List.set_cons_succ])
    (refine takeH (i := 10) (v := ?_) (by decide +kernel) (by decide +kernel) (by kernel_rfl) (by rfl) (by exact fun _ _ _ h => h) (by rfl) ?_ (by assumption) ?_); rotate_left; (focus (intro w hSw; (try dsimp only at hSw); go_simp; (try with_reducible rfl); done)); (try simp only [Act.put, List.setIfInBounds_toArray, List.set_cons_zero, List.set_cons_succ])
    refine wpAnyH_done (by decide +kernel) ?_ _
    rotate_left
    (go_simp; refine gen_allocR HF.out #[] 107 6 0 (by decide) rfl ?_; intro WC zM HFM; (have HF := Lib.hid HFM); clear HFM)
    refine hK.out _ _ ?_ (fun hHeld' => ?_)
    (focus ((try dsimp only); (first | done | ((exact HSK.out _ (HF.out.get (r := ⟨w.heap.size, w.heap.size + 1, BoxP w.heap.size (y.cells GK).toList⟩) (by (repeat (first | exact List.mem_cons_self | apply List.mem_cons_of_mem))))); done))))
    clear hK K hHeld
    have hHeld := hHeld'
    clear hHeld'
    (try simp only [Act.put, List.setIfInBounds_toArray, List.set_cons_zero, List.set_cons_succ])
    refine bothH (i := 5) (j := 7) (by decide +kernel) (by rfl) (by rfl) (by rfl) (by rfl) (fun K hK => ?_) (fun K hK => ?_)
    (go_simp; refine gen_allocR HF.out #[.slice ca y.start.pits.length cc, .slice ta y.start.stores.length tc, .int .i64 y.start.player] 27 3 1 (by decide) rfl ?_; intro WC zM HFM; (have HF := Lib.hid HFM); clear HFM)
    refine hK.out _ _ ?_ (fun hHeld' => ?_)
    (focus ((try dsimp only); (first | done | ((exact HSK.out _ (HF.out.get (r := ⟨w.heap.size, w.heap.size + 1, BoxP w.heap.size (y.cells GK).toList⟩) (by (repeat (first | exact List.mem_cons_self | apply List.mem_cons_of_mem))))); done))))
    clear hK K hHeld
    have hHeld := hHeld'
    clear hHeld'
    (try simp only [Act.put, List.setIfInBounds_toArray, List.set_cons_zero, List.set_cons_succ])
    refine nextH (i := 7) (by decide +kernel) (by rfl) (by rfl) (fun K hK => ?_)
    (go_simp; refine gen_allocX HF.out #[.slice none 0 0, .slice none 0 0, .int .i64 0] 27 (by simp) ?_; intro WC zM HFM; (have HF := Lib.hid HFM); clear HFM)
    refine hK.out _ _ ?_ (fun hHeld' => ?_)
    (focus ((try dsimp only); (first | done | ((exact HSK.out _ (HF.out.get (r := ⟨w.heap.size, w.heap.size + 1, BoxP w.heap.size (y.cells GK).toList⟩) (by (repeat (first | exact List.mem_cons_self | apply List.mem_cons_of_mem))))); done))))
    clear hK K hHeld
    have hHeld := hHeld'
    clear hHeld'
    (try simp only [Act.put, List.setIfInBounds_toArray, List.set_cons_zero, List.set_cons_succ])
    refine nextH (i := 8) (by decide +kernel) (by rfl) (by rfl) (fun K hK => ?_)
    (first | (refine wp_store_frd HF.out 0 27 _ _ rfl (y.start.cells GK.s.pa GK.s.pc GK.s.sa GK.s.sc) rfl rfl rfl rfl (by simp [P.cells]) (by omega) (by kernel_rfl) (by simp [Value.oneCell', P.cells]) ?_; intro WC zM HFM; (have HF := Lib.hid HFM); clear HFM) | (refine wp_store_frd HF.out 1 27 _ _ rfl (y.start.cells GK.s.pa GK.s.pc GK.s.sa GK.s.sc) rfl rfl rfl rfl (by simp [P.cells]) (by omega) (by kernel_rfl) (by simp [Value.oneCell', P.cells]) ?_; intro WC zM HFM; (have HF := Lib.hid HFM); clear HFM) | (refine wp_store_frd HF.out 2 27 _ _ rfl (y.start.cells GK.s.pa GK.s.pc GK.s.sa GK.s.sc) rfl rfl rfl rfl (by simp [P.cells]) (by omega) (by kernel_rfl) (by simp [Value.oneCell', P.cells]) ?_; intro WC zM HFM; (have HF := Lib.hid HFM); clear HFM) | (refine wp_store_frd HF.out 3 27 _ _ rfl (y.start.cells GK.s.pa GK.s.pc GK.s.sa GK.s.sc) rfl rfl rfl rfl (by simp [P.cells]) (by omega) (by kernel_rfl) (by simp [Value.oneCell', P.cells]) ?_; intro WC zM HFM; (have HF := Lib.hid HFM); clear HFM))
    refine hK.out _ _ ?_ (fun hHeld' => ?_)
    (focus ((try dsimp only); (first | done | ((exact HSK.out _ (HF.out.get (r := ⟨w.heap.size, w.heap.size + 1, BoxP w.heap.size (y.cells GK).toList⟩) (by (repeat (first | exact List.mem_cons_self | apply List.mem_cons_of_mem))))); done))))
    clear hK K hHeld
    have hHeld := hHeld'
    clear hHeld'
    (try simp only [Act.put, List.setIfInBounds_toArray, List.set_cons_zero, List.set_cons_succ])
    (refine takeH (i := 9) (v := ?_) (by decide +kernel) (by decide +kernel) (by kernel_rfl) (by rfl) (by exact fun _ _ _ h => h) (by rfl) ?_ (by assumption) ?_); rotate_left; (focus (intro w hSw; (try dsimp only at hSw); go_simp; (try with_reducible rfl); done)); (try simp only [Act.put, List.setIfInBounds_toArray, List.set_cons_zero, List.set_cons_succ])
    (refine takeH (i := 10) (v := ?_) (by decide +kernel) (by decide +kernel) (by kernel_rfl) (by rfl) (by exact fun _ _ _ h => h) (by rfl) ?_ (by assumption) ?_); rotate_left; (focus (intro w hSw; (try dsimp only at hSw); go_simp; (try with_reducible rfl); done)); (try simp only [Act.put, List.setIfInBounds_toArray, List.set_cons_zero, List.set_cons_succ])
    refine wpAnyH_done (by decide +kernel) ?_ _
    rotate_left
    (go_simp; refine gen_allocX HF.out #[.slice none 0 0, .slice none 0 0, .int .i64 0] 27 (by simp) ?_; intro WC zM HFM; (have HF := Lib.hid HFM); clear HFM)
    refine hK.out _ _ ?_ (fun hHeld' => ?_)
    (focus ((try dsimp only); (first | done | ((exact HSK.out _ (HF.out.get (r := ⟨w.heap.size, w.heap.size + 1, BoxP w.heap.size (y.cells GK).toList⟩) (by (repeat (first | exact List.mem_cons_self | apply List.mem_cons_of_mem))))); done))))
    clear hK K hHeld
    have hHeld := hHeld'
    clear hHeld'
    (try simp only [Act.put, List.setIfInBounds_toArray, List.set_cons_zero, List.set_cons_succ])
    refine bothH (i := 5) (j := 8) (by decide +kernel) (by rfl) (by rfl) (by rfl) (by rfl) (fun K hK => ?_) (fun K hK => ?_)
    (go_simp; refine gen_allocR HF.out #[.slice ca y.start.pits.length cc, .slice ta y.start.stores.length tc, .int .i64 y.start.player] 27 3 1 (by decide) rfl ?_; intro WC zM HFM; (have HF := Lib.hid HFM); clear HFM)
    refine hK.out _ _ ?_ (fun hHeld' => ?_)
    (focus ((try dsimp only); (first | done | ((exact HSK.out _ (HF.out.get (r := ⟨w.heap.size, w.heap.size + 1, BoxP w.heap.size (y.cells GK).toList⟩) (by (repeat (first | exact List.mem_cons_self | apply List.mem_cons_of_mem))))); done))))
    clear hK K hHeld
    have hHeld := hHeld'
    clear hHeld'
    (try simp only [Act.put, List.setIfInBounds_toArray, List.set_cons_zero, List.set_cons_succ])
    refine nextH (i := 8) (by decide +kernel) (by rfl) (by rfl) (fun K hK => ?_)
    (first | (refine wp_store_frd HF.out 0 27 _ _ rfl (y.start.cells GK.s.pa GK.s.pc GK.s.sa GK.s.sc) rfl rfl rfl rfl (by simp [P.cells]) (by omega) (by kernel_rfl) (by simp [Value.oneCell', P.cells]) ?_; intro WC zM HFM; (have HF := Lib.hid HFM); clear HFM) | (refine wp_store_frd HF.out 1 27 _ _ rfl (y.start.cells GK.s.pa GK.s.pc GK.s.sa GK.s.sc) rfl rfl rfl rfl (by simp [P.cells]) (by omega) (by kernel_rfl) (by simp [Value.oneCell', P.cells]) ?_; intro WC zM HFM; (have HF := Lib.hid HFM); clear HFM) | (refine wp_store_frd HF.out 2 27 _ _ rfl (y.start.cells GK.s.pa GK.s.pc GK.s.sa GK.s.sc) rfl rfl rfl rfl (by simp [P.cells]) (by omega) (by kernel_rfl) (by simp [Value.oneCell', P.cells]) ?_; intro WC zM HFM; (have HF := Lib.hid HFM); clear HFM) | (refine wp_store_frd HF.out 3 27 _ _ rfl (y.start.cells GK.s.pa GK.s.pc GK.s.sa GK.s.sc) rfl rfl rfl rfl (by simp [P.cells]) (by omega) (by kernel_rfl) (by simp [Value.oneCell', P.cells]) ?_; intro WC zM HFM; (have HF := Lib.hid HFM); clear HFM))
    refine hK.out _ _ ?_ (fun hHeld' => ?_)
    (focus ((try dsimp only); (first | done | ((exact HSK.out _ (HF.out.get (r := ⟨w.heap.size, w.heap.size + 1, BoxP w.heap.size (y.cells GK).toList⟩) (by (repeat (first | exact List.mem_cons_self | apply List.mem_cons_of_mem))))); done))))
    clear hK K hHeld
    have hHeld := hHeld'
    clear hHeld'
    (try simp only [Act.put, List.setIfInBounds_toArray, List.set_cons_zero, List.set_cons_succ])
    (refine takeH (i := 9) (v := ?_) (by decide +kernel) (by decide +kernel) (by kernel_rfl) (by rfl) (by exact fun _ _ _ h => h) (by rfl) ?_ (by assumption) ?_); rotate_left; (focus (intro w hSw; (try dsimp only at hSw); go_simp; (try with_reducible rfl); done)); (try simp only [Act.put, List.setIfInBounds_toArray, List.set_cons_zero, List.set_cons_succ])
    (refine takeH (i := 10) (v := ?_) (by decide +kernel) (by decide +kernel) (by kernel_rfl) (by rfl) (by exact fun _ _ _ h => h) (by rfl) ?_ (by assumption) ?_); rotate_left; (focus (intro w hSw; (try dsimp only at hSw); go_simp; (try with_reducible rfl); done)); (try simp only [Act.put, List.setIfInBounds_toArray, List.set_cons_zero, List.set_cons_succ])
    refine wpAnyH_done (by decide +kernel) ?_ _
    rotate_left
    (first | (refine wp_store_frd HF.out 0 27 _ _ rfl (y.start.cells GK.s.pa GK.s.pc GK.s.sa GK.s.sc) rfl rfl rfl rfl (by simp [P.cells]) (by omega) (by kernel_rfl) (by simp [Value.oneCell', P.cells]) ?_; intro WC zM HFM; (have HF := Lib.hid HFM); clear HFM) | (refine wp_store_frd HF.out 1 27 _ _ rfl (y.start.cells GK.s.pa GK.s.pc GK.s.sa GK.s.sc) rfl rfl rfl rfl (by simp [P.cells]) (by omega) (by kernel_rfl) (by simp [Value.oneCell', P.cells]) ?_; intro WC zM HFM; (have HF := Lib.hid HFM); clear HFM) | (refine wp_store_frd HF.out 2 27 _ _ rfl (y.start.cells GK.s.pa GK.s.pc GK.s.sa GK.s.sc) rfl rfl rfl rfl (by simp [P.cells]) (by omega) (by kernel_rfl) (by simp [Value.oneCell', P.cells]) ?_; intro WC zM HFM; (have HF := Lib.hid HFM); clear HFM) | (refine wp_store_frd HF.out 3 27 _ _ rfl (y.start.cells GK.s.pa GK.s.pc GK.s.sa GK.s.sc) rfl rfl rfl rfl (by simp [P.cells]) (by omega) (by kernel_rfl) (by simp [Value.oneCell', P.cells]) ?_; intro WC zM HFM; (have HF := Lib.hid HFM); clear HFM))
    refine hK.out _ _ ?_ (fun hHeld' => ?_)
    (focus ((try dsimp only); (first | done | ((exact HSK.out _ (HF.out.get (r := ⟨w.heap.size, w.heap.size + 1, BoxP w.heap.size (y.cells GK).toList⟩) (by (repeat (first | exact List.mem_cons_self | apply List.mem_cons_of_mem))))); done))))
    clear hK K hHeld
    have hHeld := hHeld'
    clear hHeld'
    (try simp only [Act.put, List.setIfInBounds_toArray, List.set_cons_zero, List.set_cons_succ])
    refine nextH (i := 5) (by decide +kernel) (by rfl) (by rfl) (fun K hK => ?_)
    (go_simp; refine gen_allocR HF.out #[.slice ca y.start.pits.length cc, .slice ta y.start.stores.length tc, .int .i64 y.start.player] 27 3 1 (by decide) rfl ?_; intro WC zM HFM; (have HF := Lib.hid HFM); clear HFM)
    refine hK.out _ _ ?_ (fun hHeld' => ?_)
    (focus ((try dsimp only); (first | done | ((exact HSK.out _ (HF.out.get (r := ⟨w.heap.size, w.heap.size + 1, BoxP w.heap.size (y.cells GK).toList⟩) (by (repeat (first | exact List.mem_cons_self | apply List.mem_cons_of_mem))))); done))))
    clear hK K hHeld
    have hHeld := hHeld'
    clear hHeld'
    (try simp only [Act.put, List.setIfInBounds_toArray, List.set_cons_zero, List.set_cons_succ])
    (refine takeH (i := 9) (v := ?_) (by decide +kernel) (by decide +kernel) (by kernel_rfl) (by rfl) (by exact fun _ _ _ h => h) (by rfl) ?_ (by assumption) ?_); rotate_left; (focus (intro w hSw; (try dsimp only at hSw); go_simp; (try with_reducible rfl); done)); (try simp only [Act.put, List.setIfInBounds_toArray, List.set_cons_zero, List.set_cons_succ])
    (refine takeH (i := 10) (v := ?_) (by decide +kernel) (by decide +kernel) (by kernel_rfl) (by rfl) (by exact fun _ _ _ h => h) (by rfl) ?_ (by assumption) ?_); rotate_left; (focus (intro w hSw; (try dsimp only at hSw); go_simp; (try with_reducible rfl); done)); (try simp only [Act.put, List.setIfInBounds_toArray, List.set_cons_zero, List.set_cons_succ])
    refine wpAnyH_done (by decide +kernel) ?_ _
    rotate_left
    (go_simp; refine gen_allocX HF.out #[.slice none 0 0, .slice none 0 0, .int .i64 0] 27 (by simp) ?_; intro WC zM HFM; (have HF := Lib.hid HFM); clear HFM)
    refine hK.out _ _ ?_ (fun hHeld' => ?_)
    (focus ((try dsimp only); (first | done | ((exact HSK.out _ (HF.out.get (r := ⟨w.heap.size, w.heap.size + 1, BoxP w.heap.size (y.cells GK).toList⟩) (by (repeat (first | exact List.mem_cons_self | apply List.mem_cons_of_mem))))); done))))
    clear hK K hHeld
    have hHeld := hHeld'
    clear hHeld'
    (try simp only [Act.put, List.setIfInBounds_toArray, List.set_cons_zero, List.set_cons_succ])
    refine threeH (i := 5) (j := 6) (k := 8) (by decide +kernel) (by rfl) (by rfl) (by rfl) (by rfl) (by rfl) (by rfl) (fun K hK => ?_) (fun K hK => ?_) (fun K hK => ?_)
    (go_simp; refine gen_allocR HF.out #[.slice ca y.start.pits.length cc, .slice ta y.start.stores.length tc, .int .i64 y.start.player] 27 3 1 (by decide) rfl ?_; intro WC zM HFM; (have HF := Lib.hid HFM); clear HFM)
    refine hK.out _ _ ?_ (fun hHeld' => ?_)
    (focus ((try dsimp only); (first | done | ((exact HSK.out _ (HF.out.get (r := ⟨w.heap.size, w.heap.size + 1, BoxP w.heap.size (y.cells GK).toList⟩) (by (repeat (first | exact List.mem_cons_self | apply List.mem_cons_of_mem))))); done))))
    clear hK K hHeld
    have hHeld := hHeld'
    clear hHeld'
    (try simp only [Act.put, List.setIfInBounds_toArray, List.set_cons_zero, List.set_cons_succ])
    refine bothH (i := 6) (j := 8) (by decide +kernel) (by rfl) (by rfl) (by rfl) (by rfl) (fun K hK => ?_) (fun K hK => ?_)
    (go_simp; refine gen_allocR HF.out #[] 107 6 0 (by decide) rfl ?_; intro WC zM HFM; (have HF := Lib.hid HFM); clear HFM)
    refine hK.out _ _ ?_ (fun hHeld' => ?_)
    (focus ((try dsimp only); (first | done | ((exact HSK.out _ (HF.out.get (r := ⟨w.heap.size, w.heap.size + 1, BoxP w.heap.size (y.cells GK).toList⟩) (by (repeat (first | exact List.mem_cons_self | apply List.mem_cons_of_mem))))); done))))
    clear hK K hHeld
    have hHeld := hHeld'
    clear hHeld'
    (try simp only [Act.put, List.setIfInBounds_toArray, List.set_cons_zero, List.set_cons_succ])
    refine nextH (i := 8) (by decide +kernel) (by rfl) (by rfl) (fun K hK => ?_)
    (first | (refine wp_store_frd HF.out 0 27 _ _ rfl (y.start.cells GK.s.pa GK.s.pc GK.s.sa GK.s.sc) rfl rfl rfl rfl (by simp [P.cells]) (by omega) (by kernel_rfl) (by simp [Value.oneCell', P.cells]) ?_; intro WC zM HFM; (have HF := Lib.hid HFM); clear HFM) | (refine wp_store_frd HF.out 1 27 _ _ rfl (y.start.cells GK.s.pa GK.s.pc GK.s.sa GK.s.sc) rfl rfl rfl rfl (by simp [P.cells]) (by omega) (by kernel_rfl) (by simp [Value.oneCell', P.cells]) ?_; intro WC zM HFM; (have HF := Lib.hid HFM); clear HFM) | (refine wp_store_frd HF.out 2 27 _ _ rfl (y.start.cells GK.s.pa GK.s.pc GK.s.sa GK.s.sc) rfl rfl rfl rfl (by simp [P.cells]) (by omega) (by kernel_rfl) (by simp [Value.oneCell', P.cells]) ?_; intro WC zM HFM; (have HF := Lib.hid HFM); clear HFM) | (refine wp_store_frd HF.out 3 27 _ _ rfl (y.start.cells GK.s.pa GK.s.pc GK.s.sa GK.s.sc) rfl rfl rfl rfl (by simp [P.cells]) (by omega) (by kernel_rfl) (by simp [Value.oneCell', P.cells]) ?_; intro WC zM HFM; (have HF := Lib.hid HFM); clear HFM))
    refine hK.out _ _ ?_ (fun hHeld' => ?_)
    (focus ((try dsimp only); (first | done | ((exact HSK.out _ (HF.out.get (r := ⟨w.heap.size, w.heap.size + 1, BoxP w.heap.size (y.cells GK).toList⟩) (by (repeat (first | exact List.mem_cons_self | apply List.mem_cons_of_mem))))); done))))
    clear hK K hHeld
    have hHeld := hHeld'
    clear hHeld'
    (try simp only [Act.put, List.setIfInBounds_toArray, List.set_cons_zero, List.set_cons_succ])
    (refine takeH (i := 9) (v := ?_) (by decide +kernel) (by decide +kernel) (by kernel_rfl) (by rfl) (by exact fun _ _ _ h => h) (by rfl) ?_ (by assumption) ?_); rotate_left; (focus (intro w hSw; (try dsimp only at hSw); go_simp; (try with_reducible rfl); done)); (try simp only [Act.put, List.setIfInBounds_toArray, List.set_cons_zero, List.set_cons_succ])
    (refine takeH (i := 10) (v := ?_) (by decide +kernel) (by decide +kernel) (by kernel_rfl) (by rfl) (by exact fun _ _ _ h => h) (by rfl) ?_ (by assumption) ?_); rotate_left; (focus (intro w hSw; (try dsimp only at hSw); go_simp; (try with_reducible rfl); done)); (try simp only [Act.put, List.setIfInBounds_toArray, List.set_cons_zero, List.set_cons_succ])
    refine wpAnyH_done (by decide +kernel) ?_ _
    rotate_left
    (first | (refine wp_store_frd HF.out 0 27 _ _ rfl (y.start.cells GK.s.pa GK.s.pc GK.s.sa GK.s.sc) rfl rfl rfl rfl (by simp [P.cells]) (by omega) (by kernel_rfl) (by simp [Value.oneCell', P.cells]) ?_; intro WC zM HFM; (have HF := Lib.hid HFM); clear HFM) | (refine wp_store_frd HF.out 1 27 _ _ rfl (y.start.cells GK.s.pa GK.s.pc GK.s.sa GK.s.sc) rfl rfl rfl rfl (by simp [P.cells]) (by omega) (by kernel_rfl) (by simp [Value.oneCell', P.cells]) ?_; intro WC zM HFM; (have HF := Lib.hid HFM); clear HFM) | (refine wp_store_frd HF.out 2 27 _ _ rfl (y.start.cells GK.s.pa GK.s.pc GK.s.sa GK.s.sc) rfl rfl rfl rfl (by simp [P.cells]) (by omega) (by kernel_rfl) (by simp [Value.oneCell', P.cells]) ?_; intro WC zM HFM; (have HF := Lib.hid HFM); clear HFM) | (refine wp_store_frd HF.out 3 27 _ _ rfl (y.start.cells GK.s.pa GK.s.pc GK.s.sa GK.s.sc) rfl rfl rfl rfl (by simp [P.cells]) (by omega) (by kernel_rfl) (by simp [Value.oneCell', P.cells]) ?_; intro WC zM HFM; (have HF := Lib.hid HFM); clear HFM))
    refine hK.out _ _ ?_ (fun hHeld' => ?_)
    (focus ((try dsimp only); (first | done | ((exact HSK.out _ (HF.out.get (r := ⟨w.heap.size, w.heap.size + 1, BoxP w.heap.size (y.cells GK).toList⟩) (by (repeat (first | exact List.mem_cons_self | apply List.mem_cons_of_mem))))); done))))
    clear hK K hHeld
    have hHeld := hHeld'
    clear hHeld'
    (try simp only [Act.put, List.setIfInBounds_toArray, List.set_cons_zero, List.set_cons_succ])
    (refine takeH (i := 9) (v := ?_) (by decide +kernel) (by decide +kernel) (by kernel_rfl) (by rfl) (by exact fun _ _ _ h => h) (by rfl) ?_ (by assumption) ?_); rotate_left; (focus (intro w hSw; (try dsimp only at hSw); go_simp; (try with_reducible rfl); done)); (try simp only [Act.put, List.setIfInBounds_toArray, List.set_cons_zero, List.set_cons_succ])
    refine nextH (i := 6) (by decide +kernel) (by rfl) (by rfl) (fun K hK => ?_)
    (go_simp; refine gen_allocR HF.out #[] 107 6 0 (by decide) rfl ?_; intro WC zM HFM; (have HF := Lib.hid HFM); clear HFM)
    refine hK.out _ _ ?_ (fun hHeld' => ?_)
    (focus ((try dsimp only); (first | done | ((exact HSK.out _ (HF.out.get (r := ⟨w.heap.size, w.heap.size + 1, BoxP w.heap.size (y.cells GK).toList⟩) (by (repeat (first | exact List.mem_cons_self | apply List.mem_cons_of_mem))))); done))))
    clear hK K hHeld
    have hHeld := hHeld'
    clear hHeld'
    (try simp only [Act.put, List.setIfInBounds_toArray, List.set_cons_zero, List.set_cons_succ])
    (refine takeH (i := 10) (v := ?_) (by decide +kernel) (by decide +kernel) (by kernel_rfl) (by rfl) (by exact fun _ _ _ h => h) (by rfl) ?_ (by assumption) ?_); rotate_left; (focus (intro w hSw; (try dsimp only at hSw); go_simp; (try with_reducible rfl); done)); (try simp only [Act.put, List.setIfInBounds_toArray, List.set_cons_zero, List.set_cons_succ])
    refine wpAnyH_done (by decide +kernel) ?_ _
    rotate_left
    (go_simp; refine gen_allocR HF.out #[] 107 6 0 (by decide) rfl ?_; intro WC zM HFM; (have HF := Lib.hid HFM); clear HFM)
    refine hK.out _ _ ?_ (fun hHeld' => ?_)
    (focus ((try dsimp only); (first | done | ((exact HSK.out _ (HF.out.get (r := ⟨w.heap.size, w.heap.size + 1, BoxP w.heap.size (y.cells GK).toList⟩) (by (repeat (first | exact List.mem_cons_self | apply List.mem_cons_of_mem))))); done))))
    clear hK K hHeld
    have hHeld := hHeld'
    clear hHeld'
    (try simp only [Act.put, List.setIfInBounds_toArray, List.set_cons_zero, List.set_cons_succ])
    refine bothH (i := 5) (j := 8) (by decide +kernel) (by rfl) (by rfl) (by rfl) (by rfl) (fun K hK => ?_) (fun K hK => ?_)
    (go_simp; refine gen_allocR HF.out #[.slice ca y.start.pits.length cc, .slice ta y.start.stores.length tc, .int .i64 y.start.player] 27 3 1 (by decide) rfl ?_; intro WC zM HFM; (have HF := Lib.hid HFM); clear HFM)
    refine hK.out _ _ ?_ (fun hHeld' => ?_)
    (focus ((try dsimp only); (first | done | ((exact HSK.out _ (HF.out.get (r := ⟨w.heap.size, w.heap.size + 1, BoxP w.heap.size (y.cells GK).toList⟩) (by (repeat (first | exact List.mem_cons_self | apply List.mem_cons_of_mem))))); done))))
    clear hK K hHeld
    have hHeld := hHeld'
    clear hHeld'
    (try simp only [Act.put, List.setIfInBounds_toArray, List.set_cons_zero, List.set_cons_succ])
    refine nextH (i := 8) (by decide +kernel) (by rfl) (by rfl) (fun K hK => ?_)
    (first | (refine wp_store_frd HF.out 0 27 _ _ rfl (y.start.cells GK.s.pa GK.s.pc GK.s.sa GK.s.sc) rfl rfl rfl rfl (by simp [P.cells]) (by omega) (by kernel_rfl) (by simp [Value.oneCell', P.cells]) ?_; intro WC zM HFM; (have HF := Lib.hid HFM); clear HFM) | (refine wp_store_frd HF.out 1 27 _ _ rfl (y.start.cells GK.s.pa GK.s.pc GK.s.sa GK.s.sc) rfl rfl rfl rfl (by simp [P.cells]) (by omega) (by kernel_rfl) (by simp [Value.oneCell', P.cells]) ?_; intro WC zM HFM; (have HF := Lib.hid HFM); clear HFM) | (refine wp_store_frd HF.out 2 27 _ _ rfl (y.start.cells GK.s.pa GK.s.pc GK.s.sa GK.s.sc) rfl rfl rfl rfl (by simp [P.cells]) (by omega) (by kernel_rfl) (by simp [Value.oneCell', P.cells]) ?_; intro WC zM HFM; (have HF := Lib.hid HFM); clear HFM) | (refine wp_store_frd HF.out 3 27 _ _ rfl (y.start.cells GK.s.pa GK.s.pc GK.s.sa GK.s.sc) rfl rfl rfl rfl (by simp [P.cells]) (by omega) (by kernel_rfl) (by simp [Value.oneCell', P.cells]) ?_; intro WC zM HFM; (have HF := Lib.hid HFM); clear HFM))
    refine hK.out _ _ ?_ (fun hHeld' => ?_)
    (focus ((try dsimp only); (first | done | ((exact HSK.out _ (HF.out.get (r := ⟨w.heap.size, w.heap.size + 1, BoxP w.heap.size (y.cells GK).toList⟩) (by (repeat (first | exact List.mem_cons_self | apply List.mem_cons_of_mem))))); done))))
    clear hK K hHeld
    have hHeld := hHeld'
    clear hHeld'
    (try simp only [Act.put, List.setIfInBounds_toArray, List.set_cons_zero, List.set_cons_succ])
    (refine takeH (i := 9) (v := ?_) (by decide +kernel) (by decide +kernel) (by kernel_rfl) (by rfl) (by exact fun _ _ _ h => h) (by rfl) ?_ (by assumption) ?_); rotate_left; (focus (intro w hSw; (try dsimp only at hSw); go_simp; (try with_reducible rfl); done)); (try simp only [Act.put, List.setIfInBounds_toArray, List.set_cons_zero, List.set_cons_succ])
    (refine takeH (i := 10) (v := ?_) (by decide +kernel) (by decide +kernel) (by kernel_rfl) (by rfl) (by exact fun _ _ _ h => h) (by rfl) ?_ (by assumption) ?_); rotate_left; (focus (intro w hSw; (try dsimp only at hSw); go_simp; (try with_reducible rfl); done)); (try simp only [Act.put, List.setIfInBounds_toArray, List.set_cons_zero, List.set_cons_succ])
    refine wpAnyH_done (by decide +kernel) ?_ _
    rotate_left
    (first | (refine wp_store_frd HF.out 0 27 _ _ rfl (y.start.cells GK.s.pa GK.s.pc GK.s.sa GK.s.sc) rfl rfl rfl rfl (by simp [P.cells]) (by omega) (by kernel_rfl) (by simp [Value.oneCell', P.cells]) ?_; intro WC zM HFM; (have HF := Lib.hid HFM); clear HFM) | (refine wp_store_frd HF.out 1 27 _ _ rfl (y.start.cells GK.s.pa GK.s.pc GK.s.sa GK.s.sc) rfl rfl rfl rfl (by simp [P.cells]) (by omega) (by kernel_rfl) (by simp [Value.oneCell', P.cells]) ?_; intro WC zM HFM; (have HF := Lib.hid HFM); clear HFM) | (refine wp_store_frd HF.out 2 27 _ _ rfl (y.start.cells GK.s.pa GK.s.pc GK.s.sa GK.s.sc) rfl rfl rfl rfl (by simp [P.cells]) (by omega) (by kernel_rfl) (by simp [Value.oneCell', P.cells]) ?_; intro WC zM HFM; (have HF := Lib.hid HFM); clear HFM) | (refine wp_store_frd HF.out 3 27 _ _ rfl (y.start.cells GK.s.pa GK.s.pc GK.s.sa GK.s.sc) rfl rfl rfl rfl (by simp [P.cells]) (by omega) (by kernel_rfl) (by simp [Value.oneCell', P.cells]) ?_; intro WC zM HFM; (have HF := Lib.hid HFM); clear HFM))
    refine hK.out _ _ ?_ (fun hHeld' => ?_)
    (focus ((try dsimp only); (first | done | ((exact HSK.out _ (HF.out.get (r := ⟨w.heap.size, w.heap.size + 1, BoxP w.heap.size (y.cells GK).toList⟩) (by (repeat (first | exact List.mem_cons_self | apply List.mem_cons_of_mem))))); done))))
    clear hK K hHeld
    have hHeld := hHeld'
    clear hHeld'
    (try simp only [Act.put, List.setIfInBounds_toArray, List.set_cons_zero, List.set_cons_succ])
    refine nextH (i := 5) (by decide +kernel) (by rfl) (by rfl) (fun K hK => ?_)
    (go_simp; refine gen_allocR HF.out #[.slice ca y.start.pits.length cc, .slice ta y.start.stores.length tc, .int .i64 y.start.player] 27 3 1 (by decide) rfl ?_; intro WC zM HFM; (have HF := Lib.hid HFM); clear HFM)
    refine hK.out _ _ ?_ (fun hHeld' => ?_)
    (focus ((try dsimp only); (first | done | ((exact HSK.out _ (HF.out.get (r := ⟨w.heap.size, w.heap.size + 1, BoxP w.heap.size (y.cells GK).toList⟩) (by (repeat (first | exact List.mem_cons_self | apply List.mem_cons_of_mem))))); done))))
    clear hK K hHeld
    have hHeld := hHeld'
    clear hHeld'
    (try simp only [Act.put, List.setIfInBounds_toArray, List.set_cons_zero, List.set_cons_succ])
    (refine takeH (i := 9) (v := ?_) (by decide +kernel) (by decide +kernel) (by kernel_rfl) (by rfl) (by exact fun _ _ _ h => h) (by rfl) ?_ (by assumption) ?_); rotate_left; (focus (intro w hSw; (try dsimp only at hSw); go_simp; (try with_reducible rfl); done)); (try simp only [Act.put, List.setIfInBounds_toArray, List.set_cons_zero, List.set_cons_succ])
    (refine takeH (i := 10) (v := ?_) (by decide +kernel) (by decide +kernel) (by kernel_rfl) (by rfl) (by exact fun _ _ _ h => h) (by rfl) ?_ (by assumption) ?_); rotate_left; (focus (intro w hSw; (try dsimp only at hSw); go_simp; (try with_reducible rfl); done)); (try simp only [Act.put, List.setIfInBounds_toArray, List.set_cons_zero, List.set_cons_succ])
    refine wpAnyH_done (by decide +kernel) ?_ _
    rotate_left
    (first | (refine wp_store_frd HF.out 0 27 _ _ rfl (y.start.cells GK.s.pa GK.s.pc GK.s.sa GK.s.sc) rfl rfl rfl rfl (by simp [P.cells]) (by omega) (by kernel_rfl) (by simp [Value.oneCell', P.cells]) ?_; intro WC zM HFM; (have HF := Lib.hid HFM); clear HFM) | (refine wp_store_frd HF.out 1 27 _ _ rfl (y.start.cells GK.s.pa GK.s.pc GK.s.sa GK.s.sc) rfl rfl rfl rfl (by simp [P.cells]) (by omega) (by kernel_rfl) (by simp [Value.oneCell', P.cells]) ?_; intro WC zM HFM; (have HF := Lib.hid HFM); clear HFM) | (refine wp_store_frd HF.out 2 27 _ _ rfl (y.start.cells GK.s.pa GK.s.pc GK.s.sa GK.s.sc) rfl rfl rfl rfl (by simp [P.cells]) (by omega) (by kernel_rfl) (by simp [Value.oneCell', P.cells]) ?_; intro WC zM HFM; (have HF := Lib.hid HFM); clear HFM) | (refine wp_store_frd HF.out 3 27 _ _ rfl (y.start.cells GK.s.pa GK.s.pc GK.s.sa GK.s.sc) rfl rfl rfl rfl (by simp [P.cells]) (by omega) (by kernel_rfl) (by simp [Value.oneCell', P.cells]) ?_; intro WC zM HFM; (have HF := Lib.hid HFM); clear HFM))
    refine hK.out _ _ ?_ (fun hHeld' => ?_)
    (focus ((try dsimp only); (first | done | ((exact HSK.out _ (HF.out.get (r := ⟨w.heap.size, w.heap.size + 1, BoxP w.heap.size (y.cells GK).toList⟩) (by (repeat (first | exact List.mem_cons_self | apply List.mem_cons_of_mem))))); done))))
    clear hK K hHeld
    have hHeld := hHeld'
    clear hHeld'
    (try simp only [Act.put, List.setIfInBounds_toArray, List.set_cons_zero, List.set_cons_succ])
    refine bothH (i := 5) (j := 6) (by decide +kernel) (by rfl) (by rfl) (by rfl) (by rfl) (fun K hK => ?_) (fun K hK => ?_)
    (go_simp; refine gen_allocR HF.out #[.slice ca y.start.pits.length cc, .slice ta y.start.stores.length tc, .int .i64 y.start.player] 27 3 1 (by decide) rfl ?_; intro WC zM HFM; (have HF := Lib.hid HFM); clear HFM)
    refine hK.out _ _ ?_ (fun hHeld' => ?_)
    (focus ((try dsimp only); (first | done | ((exact HSK.out _ (HF.out.get (r := ⟨w.heap.size, w.heap.size + 1, BoxP w.heap.size (y.cells GK).toList⟩) (by (repeat (first | exact List.mem_cons_self | apply List.mem_cons_of_mem))))); done))))
    clear hK K hHeld
    have hHeld := hHeld'
    clear hHeld'
    (try simp only [Act.put, List.setIfInBounds_toArray, List.set_cons_zero, List.set_cons_succ])
    (refine takeH (i := 9) (v := ?_) (by decide +kernel) (by decide +kernel) (by kernel_rfl) (by rfl) (by exact fun _ _ _ h => h) (by rfl) ?_ (by assumption) ?_); rotate_left; (focus (intro w hSw; (try dsimp only at hSw); go_simp; (try with_reducible rfl); done)); (try simp only [Act.put, List.setIfInBounds_toArray, List.set_cons_zero, List.set_cons_succ])
    refine nextH (i := 6) (by decide +kernel) (by rfl) (by rfl) (fun K hK => ?_)
    (go_simp; refine gen_allocR HF.out #[] 107 6 0 (by decide) rfl ?_; intro WC zM HFM; (have HF := Lib.hid HFM); clear HFM)
    refine hK.out _ _ ?_ (fun hHeld' => ?_)
    (focus ((try dsimp only); (first | done | ((exact HSK.out _ (HF.out.get (r := ⟨w.heap.size, w.heap.size + 1, BoxP w.heap.size (y.cells GK).toList⟩) (by (repeat (first | exact List.mem_cons_self | apply List.mem_cons_of_mem))))); done))))
    clear hK K hHeld
    have hHeld := hHeld'
    clear hHeld'
    (try simp only [Act.put, List.setIfInBounds_toArray, List.set_cons_zero, List.set_cons_succ])
    (refine takeH (i := 10) (v := ?_) (by decide +kernel) (by decide +kernel) (by kernel_rfl) (by rfl) (by exact fun _ _ _ h => h) (by rfl) ?_ (by assumption) ?_); rotate_left; (focus (intro w hSw; (try dsimp only at hSw); go_simp; (try with_reducible rfl); done)); (try simp only [Act.put, List.setIfInBounds_toArray, List.set_cons_zero, List.set_cons_succ])
    refine wpAnyH_done (by decide +kernel) ?_ _
    rotate_left
    (go_simp; refine gen_allocR HF.out #[] 107 6 0 (by decide) rfl ?_; intro WC zM HFM; (have HF := Lib.hid HFM); clear HFM)
    refine hK.out _ _ ?_ (fun hHeld' => ?_)
    (focus ((try dsimp only); (first | done | ((exact HSK.out _ (HF.out.get (r := ⟨w.heap.size, w.heap.size + 1, BoxP w.heap.size (y.cells GK).toList⟩) (by (repeat (first | exact List.mem_cons_self | apply List.mem_cons_of_mem))))); done))))
    clear hK K hHeld
    have hHeld := hHeld'
    clear hHeld'
    (try simp only [Act.put, List.setIfInBounds_toArray, List.set_cons_zero, List.set_cons_succ])
    refine nextH (i := 5) (by decide +kernel) (by rfl) (by rfl) (fun K hK => ?_)
    (go_simp; refine gen_allocR HF.out #[.slice ca y.start.pits.length cc, .slice ta y.start.stores.length tc, .int .i64 y.start.player] 27 3 1 (by decide) rfl ?_; intro WC zM HFM; (have HF := Lib.hid HFM); clear HFM)
    refine hK.out _ _ ?_ (fun hHeld' => ?_)
    (focus ((try dsimp only); (first | done | ((exact HSK.out _ (HF.out.get (r := ⟨w.heap.size, w.heap.size + 1, BoxP w.heap.size (y.cells GK).toList⟩) (by (repeat (first | exact List.mem_cons_self | apply List.mem_cons_of_mem))))); done))))
    clear hK K hHeld
    have hHeld := hHeld'
    clear hHeld'
    (try simp only [Act.put, List.setIfInBounds_toArray, List.set_cons_zero, List.set_cons_succ])
    (refine takeH (i := 9) (v := ?_) (by decide +kernel) (by decide +kernel) (by kernel_rfl) (by rfl) (by exact fun _ _ _ h => h) (by rfl) ?_ (by assumption) ?_); rotate_left; (focus (intro w hSw; (try dsimp only at hSw); go_simp; (try with_reducible rfl); done)); (try simp only [Act.put, List.setIfInBounds_toArray, List.set_cons_zero, List.set_cons_succ])
    (refine takeH (i := 10) (v := ?_) (by decide +kernel) (by decide +kernel) (by kernel_rfl) (by rfl) (by exact fun _ _ _ h => h) (by rfl) ?_ (by assumption) ?_); rotate_left; (focus (intro w hSw; (try dsimp only at hSw); go_simp; (try with_reducible rfl); done)); (try simp only [Act.put, List.setIfInBounds_toArray, List.set_cons_zero, List.set_cons_succ])
    refine wpAnyH_done (by decide +kernel) ?_ _
    rotate_left
    (go_simp; refine gen_allocR HF.out #[] 107 6 0 (by decide) rfl ?_; intro WC zM HFM; (have HF := Lib.hid HFM); clear HFM)
    refine hK.out _ _ ?_ (fun hHeld' => ?_)
    (focus ((try dsimp only); (first | done | ((exact HSK.out _ (HF.out.get (r := ⟨w.heap.size, w.heap.size + 1, BoxP w.heap.size (y.cells GK).toList⟩) (by (repeat (first | exact List.mem_cons_self | apply List.mem_cons_of_mem))))); done))))
    clear hK K hHeld
    have hHeld := hHeld'
    clear hHeld'
    (try simp only [Act.put, List.setIfInBounds_toArray, List.set_cons_zero, List.set_cons_succ])
    refine bothH (i := 4) (j := 7) (by decide +kernel) (by rfl) (by rfl) (by rfl) (by rfl) (fun K hK => ?_) (fun K hK => ?_)
    (go_simp; go_at_call 85; (refine (copied_c y.start GK.s.pa GK.s.sa GK.s.pc GK.s.sc _ (HH.out.start.below HF.out.below (Nat.le_refl _)) m1 m2).mono ?_); (rintro e WC ⟨ca, cc, ta, tc, rfl, ho5, hb5⟩); (have HFM := HF.out.rows (A := ⟨ca, cc, ta, tc⟩) hb5 ho5); (have zM := hb5.size); (obtain ⟨cl, ch, hcl, hch, HFM⟩ : ∃ cl ch, cl = _ ∧ ch = WC.heap.size ∧ Frd w WC (⟨cl, ch, RowsP cl ch y.start ⟨ca, cc, ta, tc⟩⟩ :: _) := ⟨_, _, rfl, rfl, HFM⟩); (have zcl := Nat.le_of_eq hcl); (have zcl' := Nat.le_of_eq hcl.symm); (have zch := Nat.le_of_eq hch); clear hcl hch; (have HF := Lib.hid HFM); clear HFM ho5 hb5)
    refine hK.out _ _ ?_ (fun hHeld' => ?_)
    (focus ((try dsimp only); (first | done | ((exact HSK.out _ (HF.out.get (r := ⟨w.heap.size, w.heap.size + 1, BoxP w.heap.size (y.cells GK).toList⟩) (by (repeat (first | exact List.mem_cons_self | apply List.mem_cons_of_mem))))); done))))
    clear hK K hHeld
    have hHeld := hHeld'
    clear hHeld'
    (try simp only [Act.put, List.setIfInBounds_toArray, List.set_cons_zero, List.set_cons_succ])
    refine bothH (i := 5) (j := 7) (by decide +kernel) (by rfl) (by rfl) (by rfl) (by rfl) (fun K hK => ?_) (fun K hK => ?_)
    (go_simp; refine gen_allocR HF.out #[.slice ca y.start.pits.length cc, .slice ta y.start.stores.length tc, .int .i64 y.start.player] 27 3 1 (by decide) rfl ?_; intro WC zM HFM; (have HF := Lib.hid HFM); clear HFM)
    refine hK.out _ _ ?_ (fun hHeld' => ?_)
    (focus ((try dsimp only); (first | done | ((exact HSK.out _ (HF.out.get (r := ⟨w.heap.size, w.heap.size + 1, BoxP w.heap.size (y.cells GK).toList⟩) (by (repeat (first | exact List.mem_cons_self | apply List.mem_cons_of_mem))))); done))))
    clear hK K hHeld
    have hHeld := hHeld'
    clear hHeld'
    (try simp only [Act.put, List.setIfInBounds_toArray, List.set_cons_zero, List.set_cons_succ])
    refine nextH (i := 7) (by decide +kernel) (by rfl) (by rfl) (fun K hK => ?_)
    (go_simp; refine gen_allocX HF.out #[.slice none 0 0, .slice none 0 0, .int .i64 0] 27 (by simp) ?_; intro WC zM HFM; (have HF := Lib.hid HFM); clear HFM)
    refine hK.out _ _ ?_ (fun hHeld' => ?_)
    (focus ((try dsimp only); (first | done | ((exact HSK.out _ (HF.out.get (r := ⟨w.heap.size, w.heap.size + 1, BoxP w.heap.size (y.cells GK).toList⟩) (by (repeat (first | exact List.mem_cons_self | apply List.mem_cons_of_mem))))); done))))
    clear hK K hHeld
    have hHeld := hHeld'
    clear hHeld'
    (try simp only [Act.put, List.setIfInBounds_toArray, List.set_cons_zero, List.set_cons_succ])
    refine nextH (i := 8) (by decide +kernel) (by rfl) (by rfl) (fun K hK => ?_)
    (first | (refine wp_store_frd HF.out 0 27 _ _ rfl (y.start.cells GK.s.pa GK.s.pc GK.s.sa GK.s.sc) rfl rfl rfl rfl (by simp [P.cells]) (by omega) (by kernel_rfl) (by simp [Value.oneCell', P.cells]) ?_; intro WC zM HFM; (have HF := Lib.hid HFM); clear HFM) | (refine wp_store_frd HF.out 1 27 _ _ rfl (y.start.cells GK.s.pa GK.s.pc GK.s.sa GK.s.sc) rfl rfl rfl rfl (by simp [P.cells]) (by omega) (by kernel_rfl) (by simp [Value.oneCell', P.cells]) ?_; intro WC zM HFM; (have HF := Lib.hid HFM); clear HFM) | (refine wp_store_frd HF.out 2 27 _ _ rfl (y.start.cells GK.s.pa GK.s.pc GK.s.sa GK.s.sc) rfl rfl rfl rfl (by simp [P.cells]) (by omega) (by kernel_rfl) (by simp [Value.oneCell', P.cells]) ?_; intro WC zM HFM; (have HF := Lib.hid HFM); clear HFM) | (refine wp_store_frd HF.out 3 27 _ _ rfl (y.start.cells GK.s.pa GK.s.pc GK.s.sa GK.s.sc) rfl rfl rfl rfl (by simp [P.cells]) (by omega) (by kernel_rfl) (by simp [Value.oneCell', P.cells]) ?_; intro WC zM HFM; (have HF := Lib.hid HFM); clear HFM))
    refine hK.out _ _ ?_ (fun hHeld' => ?_)
    (focus ((try dsimp only); (first | done | ((exact HSK.out _ (HF.out.get (r := ⟨w.heap.size, w.heap.size + 1, BoxP w.heap.size (y.cells GK).toList⟩) (by (repeat (first | exact List.mem_cons_self | apply List.mem_cons_of_mem))))); done))))
    clear hK K hHeld
    have hHeld := hHeld'
    clear hHeld'
    (try simp only [Act.put, List.setIfInBounds_toArray, List.set_cons_zero, List.set_cons_succ])
    (refine takeH (i := 9) (v := ?_) (by decide +kernel) (by decide +kernel) (by kernel_rfl) (by rfl) (by exact fun _ _ _ h => h) (by rfl) ?_ (by assumption) ?_); rotate_left; (focus (intro w hSw; (try dsimp only at hSw); go_simp; (try with_reducible rfl); done)); (try simp only [Act.put, List.setIfInBounds_toArray, List.set_cons_zero, List.set_cons_succ])
    (refine takeH (i := 10) (v := ?_) (by decide +kernel) (by decide +kernel) (by kernel_rfl) (by rfl) (by exact fun _ _ _ h => h) (by rfl) ?_ (by assumption) ?_); rotate_left; (focus (intro w hSw; (try dsimp only at hSw); go_simp; (try with_reducible rfl); done)); (try simp only [Act.put, List.setIfInBounds_toArray, List.set_cons_zero, List.set_cons_succ])
    refine wpAnyH_done (by decide +kernel) ?_ _
    rotate_left
    (go_simp; refine gen_allocX HF.out #[.slice none 0 0, .slice none 0 0, .int .i64 0] 27 (by simp) ?_; intro WC zM HFM; (have HF := Lib.hid HFM); clear HFM)
    refine hK.out _ _ ?_ (fun hHeld' => ?_)
    (focus ((try dsimp only); (first | done | ((exact HSK.out _ (HF.out.get (r := ⟨w.heap.size, w.heap.size + 1, BoxP w.heap.size (y.cells GK).toList⟩) (by (repeat (first | exact List.mem_cons_self | apply List.mem_cons_of_mem))))); done))))
    clear hK K hHeld
    have hHeld := hHeld'
    clear hHeld'
    (try simp only [Act.put, List.setIfInBounds_toArray, List.set_cons_zero, List.set_cons_succ])
    refine bothH (i := 5) (j := 8) (by decide +kernel) (by rfl) (by rfl) (by rfl) (by rfl) (fun K hK => ?_) (fun K hK => ?_)
    (go_simp; refine gen_allocR HF.out #[.slice ca y.start.pits.length cc, .slice ta y.start.stores.length tc, .int .i64 y.start.player] 27 3 1 (by decide) rfl ?_; intro WC zM HFM; (have HF := Lib.hid HFM); clear HFM)
    refine hK.out _ _ ?_ (fun hHeld' => ?_)
    (focus ((try dsimp only); (first | done | ((exact HSK.out _ (HF.out.get (r := ⟨w.heap.size, w.heap.size + 1, BoxP w.heap.size (y.cells GK).toList⟩) (by (repeat (first | exact List.mem_cons_self | apply List.mem_cons_of_mem))))); done))))
    clear hK K hHeld
    have hHeld := hHeld'
    clear hHeld'
    (try simp only [Act.put, List.setIfInBounds_toArray, List.set_cons_zero, List.set_cons_succ])
    refine nextH (i := 8) (by decide +kernel) (by rfl) (by rfl) (fun K hK => ?_)
    (first | (refine wp_store_frd HF.out 0 27 _ _ rfl (y.start.cells GK.s.pa GK.s.pc GK.s.sa GK.s.sc) rfl rfl rfl rfl (by simp [P.cells]) (by omega) (by kernel_rfl) (by simp [Value.oneCell', P.cells]) ?_; intro WC zM HFM; (have HF := Lib.hid HFM); clear HFM) | (refine wp_store_frd HF.out 1 27 _ _ rfl (y.start.cells GK.s.pa GK.s.pc GK.s.sa GK.s.sc) rfl rfl rfl rfl (by simp [P.cells]) (by omega) (by kernel_rfl) (by simp [Value.oneCell', P.cells]) ?_; intro WC zM HFM; (have HF := Lib.hid HFM); clear HFM) | (refine wp_store_frd HF.out 2 27 _ _ rfl (y.start.cells GK.s.pa GK.s.pc GK.s.sa GK.s.sc) rfl rfl rfl rfl (by simp [P.cells]) (by omega) (by kernel_rfl) (by simp [Value.oneCell', P.cells]) ?_; intro WC zM HFM; (have HF := Lib.hid HFM); clear HFM) | (refine wp_store_frd HF.out 3 27 _ _ rfl (y.start.cells GK.s.pa GK.s.pc GK.s.sa GK.s.sc) rfl rfl rfl rfl (by simp [P.cells]) (by omega) (by kernel_rfl) (by simp [Value.oneCell', P.cells]) ?_; intro WC zM HFM; (have HF := Lib.hid HFM); clear HFM))
    refine hK.out _ _ ?_ (fun hHeld' => ?_)
    (focus ((try dsimp only); (first | done | ((exact HSK.out _ (HF.out.get (r := ⟨w.heap.size, w.heap.size + 1, BoxP w.heap.size (y.cells GK).toList⟩) (by (repeat (first | exact List.mem_cons_self | apply List.mem_cons_of_mem))))); done))))
    clear hK K hHeld
    have hHeld := hHeld'
    clear hHeld'
    (try simp only [Act.put, List.setIfInBounds_toArray, List.set_cons_zero, List.set_cons_succ])
    (refine takeH (i := 9) (v := ?_) (by decide +kernel) (by decide +kernel) (by kernel_rfl) (by rfl) (by exact fun _ _ _ h => h) (by rfl) ?_ (by assumption) ?_); rotate_left; (focus (intro w hSw; (try dsimp only at hSw); go_simp; (try with_reducible rfl); done)); (try simp only [Act.put, List.setIfInBounds_toArray, List.set_cons_zero, List.set_cons_succ])
    (refine takeH (i := 10) (v := ?_) (by decide +kernel) (by decide +kernel) (by kernel_rfl) (by rfl) (by exact fun _ _ _ h => h) (by rfl) ?_ (by assumption) ?_); rotate_left; (focus (intro w hSw; (try dsimp only at hSw); go_simp; (try with_reducible rfl); done)); (try simp only [Act.put, List.setIfInBounds_toArray, List.set_cons_zero, List.set_cons_succ])
    refine wpAnyH_done (by decide +kernel) ?_ _
    rotate_left
    (first | (refine wp_store_frd HF.out 0 27 _ _ rfl (y.start.cells GK.s.pa GK.s.pc GK.s.sa GK.s.sc) rfl rfl rfl rfl (by simp [P.cells]) (by omega) (by kernel_rfl) (by simp [Value.oneCell', P.cells]) ?_; intro WC zM HFM; (have HF := Lib.hid HFM); clear HFM) | (refine wp_store_frd HF.out 1 27 _ _ rfl (y.start.cells GK.s.pa GK.s.pc GK.s.sa GK.s.sc) rfl rfl rfl rfl (by simp [P.cells]) (by omega) (by kernel_rfl) (by simp [Value.oneCell', P.cells]) ?_; intro WC zM HFM; (have HF := Lib.hid HFM); clear HFM) | (refine wp_store_frd HF.out 2 27 _ _ rfl (y.start.cells GK.s.pa GK.s.pc GK.s.sa GK.s.sc) rfl rfl rfl rfl (by simp [P.cells]) (by omega) (by kernel_rfl) (by simp [Value.oneCell', P.cells]) ?_; intro WC zM HFM; (have HF := Lib.hid HFM); clear HFM) | (refine wp_store_frd HF.out 3 27 _ _ rfl (y.start.cells GK.s.pa GK.s.pc GK.s.sa GK.s.sc) rfl rfl rfl rfl (by simp [P.cells]) (by omega) (by kernel_rfl) (by simp [Value.oneCell', P.cells]) ?_; intro WC zM HFM; (have HF := Lib.hid HFM); clear HFM))
    refine hK.out _ _ ?_ (fun hHeld' => ?_)
    (focus ((try dsimp only); (first | done | ((exact HSK.out _ (HF.out.get (r := ⟨w.heap.size, w.heap.size + 1, BoxP w.heap.size (y.cells GK).toList⟩) (by (repeat (first | exact List.mem_cons_self | apply List.mem_cons_of_mem))))); done))))
    clear hK K hHeld
    have hHeld := hHeld'
    clear hHeld'
    (try simp only [Act.put, List.setIfInBounds_toArray, List.set_cons_zero, List.set_cons_succ])
    refine nextH (i := 5) (by decide +kernel) (by rfl) (by rfl) (fun K hK => ?_)
    (go_simp; refine gen_allocR HF.out #[.slice ca y.start.pits.length cc, .slice ta y.start.stores.length tc, .int .i64 y.start.player] 27 3 1 (by decide) rfl ?_; intro WC zM HFM; (have HF := Lib.hid HFM); clear HFM)
    refine hK.out _ _ ?_ (fun hHeld' => ?_)
    (focus ((try dsimp only); (first | done | ((exact HSK.out _ (HF.out.get (r := ⟨w.heap.size, w.heap.size + 1, BoxP w.heap.size (y.cells GK).toList⟩) (by (repeat (first | exact List.mem_cons_self | apply List.mem_cons_of_mem))))); done))))
    clear hK K hHeld
    have hHeld := hHeld'
    clear hHeld'
    (try simp only [Act.put, List.setIfInBounds_toArray, List.set_cons_zero, List.set_cons_succ])
    (refine takeH (i := 9) (v := ?_) (by decide +kernel) (by decide +kernel) (by kernel_rfl) (by rfl) (by exact fun _ _ _ h => h) (by rfl) ?_ (by assumption) ?_); rotate_left; (focus (intro w hSw; (try dsimp only at hSw); go_simp; (try with_reducible rfl); done)); (try simp only [Act.put, List.setIfInBounds_toArray, List.set_cons_zero, List.set_cons_succ])
    (refine takeH (i := 10) (v := ?_) (by decide +kernel) (by decide +kernel) (by kernel_rfl) (by rfl) (by exact fun _ _ _ h => h) (by rfl) ?_ (by assumption) ?_); rotate_left; (focus (intro w hSw; (try dsimp only at hSw); go_simp; (try with_reducible rfl); done)); (try simp only [Act.put, List.setIfInBounds_toArray, List.set_cons_zero, List.set_cons_succ])
    refine wpAnyH_done (by decide +kernel) ?_ _
    rotate_left
    (go_simp; refine gen_allocX HF.out #[.slice none 0 0, .slice none 0 0, .int .i64 0] 27 (by simp) ?_; intro WC zM HFM; (have HF := Lib.hid HFM); clear HFM)
    refine hK.out _ _ ?_ (fun hHeld' => ?_)
    (focus ((try dsimp only); (first | done | ((exact HSK.out _ (HF.out.get (r := ⟨w.heap.size, w.heap.size + 1, BoxP w.heap.size (y.cells GK).toList⟩) (by (repeat (first | exact List.mem_cons_self | apply List.mem_cons_of_mem))))); done))))
    clear hK K hHeld
    have hHeld := hHeld'
    clear hHeld'
    (try simp only [Act.put, List.setIfInBounds_toArray, List.set_cons_zero, List.set_cons_succ])
    refine nextH (i := 4) (by decide +kernel) (by rfl) (by rfl) (fun K hK => ?_)
    (go_simp; go_at_call 85; (refine (copied_c y.start GK.s.pa GK.s.sa GK.s.pc GK.s.sc _ (HH.out.start.below HF.out.below (Nat.le_refl _)) m1 m2).mono ?_); (rintro e WC ⟨ca, cc, ta, tc, rfl, ho5, hb5⟩); (have HFM := HF.out.rows (A := ⟨ca, cc, ta, tc⟩) hb5 ho5); (have zM := hb5.size); (obtain ⟨cl, ch, hcl, hch, HFM⟩ : ∃ cl ch, cl = _ ∧ ch = WC.heap.size ∧ Frd w WC (⟨cl, ch, RowsP cl ch y.start ⟨ca, cc, ta, tc⟩⟩ :: _) := ⟨_, _, rfl, rfl, HFM⟩); (have zcl := Nat.le_of_eq hcl); (have zcl' := Nat.le_of_eq hcl.symm); (have zch := Nat.le_of_eq hch); clear hcl hch; (have HF := Lib.hid HFM); clear HFM ho5 hb5)
    refine hK.out _ _ ?_ (fun hHeld' => ?_)
    (focus ((try dsimp only); (first | done | ((exact HSK.out _ (HF.out.get (r := ⟨w.heap.size, w.heap.size + 1, BoxP w.heap.size (y.cells GK).toList⟩) (by (repeat (first | exact List.mem_cons_self | apply List.mem_cons_of_mem))))); done))))
    clear hK K hHeld
    have hHeld := hHeld'
    clear hHeld'
    (try simp only [Act.put, List.setIfInBounds_toArray, List.set_cons_zero, List.set_cons_succ])
    refine bothH (i := 5) (j := 8) (by decide +kernel) (by rfl) (by rfl) (by rfl) (by rfl) (fun K hK => ?_) (fun K hK => ?_)
    (go_simp; refine gen_allocR HF.out #[.slice ca y.start.pits.length cc, .slice ta y.start.stores.length tc, .int .i64 y.start.player] 27 3 1 (by decide) rfl ?_; intro WC zM HFM; (have HF := Lib.hid HFM); clear HFM)
    refine hK.out _ _ ?_ (fun hHeld' => ?_)
    (focus ((try dsimp only); (first | done | ((exact HSK.out _ (HF.out.get (r := ⟨w.heap.size, w.heap.size + 1, BoxP w.heap.size (y.cells GK).toList⟩) (by (repeat (first | exact List.mem_cons_self | apply List.mem_cons_of_mem))))); done))))
    clear hK K hHeld
    have hHeld := hHeld'
    clear hHeld'
    (try simp only [Act.put, List.setIfInBounds_toArray, List.set_cons_zero, List.set_cons_succ])
    refine nextH (i := 8) (by decide +kernel) (by rfl) (by rfl) (fun K hK => ?_)
    (first | (refine wp_store_frd HF.out 0 27 _ _ rfl (y.start.cells GK.s.pa GK.s.pc GK.s.sa GK.s.sc) rfl rfl rfl rfl (by simp [P.cells]) (by omega) (by kernel_rfl) (by simp [Value.oneCell', P.cells]) ?_; intro WC zM HFM; (have HF := Lib.hid HFM); clear HFM) | (refine wp_store_frd HF.out 1 27 _ _ rfl (y.start.cells GK.s.pa GK.s.pc GK.s.sa GK.s.sc) rfl rfl rfl rfl (by simp [P.cells]) (by omega) (by kernel_rfl) (by simp [Value.oneCell', P.cells]) ?_; intro WC zM HFM; (have HF := Lib.hid HFM); clear HFM) | (refine wp_store_frd HF.out 2 27 _ _ rfl (y.start.cells GK.s.pa GK.s.pc GK.s.sa GK.s.sc) rfl rfl rfl rfl (by simp [P.cells]) (by omega) (by kernel_rfl) (by simp [Value.oneCell', P.cells]) ?_; intro WC zM HFM; (have HF := Lib.hid HFM); clear HFM) | (refine wp_store_frd HF.out 3 27 _ _ rfl (y.start.cells GK.s.pa GK.s.pc GK.s.sa GK.s.sc) rfl rfl rfl rfl (by simp [P.cells]) (by omega) (by kernel_rfl) (by simp [Value.oneCell', P.cells]) ?_; intro WC zM HFM; (have HF := Lib.hid HFM); clear HFM))
    refine hK.out _ _ ?_ (fun hHeld' => ?_)
    (focus ((try dsimp only); (first | done | ((exact HSK.out _ (HF.out.get (r := ⟨w.heap.size, w.heap.size + 1, BoxP w.heap.size (y.cells GK).toList⟩) (by (repeat (first | exact List.mem_cons_self | apply List.mem_cons_of_mem))))); done))))
    clear hK K hHeld
    have hHeld := hHeld'
    clear hHeld'
    (try simp only [Act.put, List.setIfInBounds_toArray, List.set_cons_zero, List.set_cons_succ])
    (refine takeH (i := 9) (v := ?_) (by decide +kernel) (by decide +kernel) (by kernel_rfl) (by rfl) (by exact fun _ _ _ h => h) (by rfl) ?_ (by assumption) ?_); rotate_left; (focus (intro w hSw; (try dsimp only at hSw); go_simp; (try with_reducible rfl); done)); (try simp only [Act.put, List.setIfInBounds_toArray, List.set_cons_zero, List.set_cons_succ])
    (refine takeH (i := 10) (v := ?_) (by decide +kernel) (by decide +kernel) (by kernel_rfl) (by rfl) (by exact fun _ _ _ h => h) (by rfl) ?_ (by assumption) ?_); rotate_left; (focus (intro w hSw; (try dsimp only at hSw); go_simp; (try with_reducible rfl); done)); (try simp only [Act.put, List.setIfInBounds_toArray, List.set_cons_zero, List.set_cons_succ])
    refine wpAnyH_done (by decide +kernel) ?_ _
    rotate_left
    (first | (refine wp_store_frd HF.out 0 27 _ _ rfl (y.start.cells GK.s.pa GK.s.pc GK.s.sa GK.s.sc) rfl rfl rfl rfl (by simp [P.cells]) (by omega) (by kernel_rfl) (by simp [Value.oneCell', P.cells]) ?_; intro WC zM HFM; (have HF := Lib.hid HFM); clear HFM) | (refine wp_store_frd HF.out 1 27 _ _ rfl (y.start.cells GK.s.pa GK.s.pc GK.s.sa GK.s.sc) rfl rfl rfl rfl (by simp [P.cells]) (by omega) (by kernel_rfl) (by simp [Value.oneCell', P.cells]) ?_; intro WC zM HFM; (have HF := Lib.hid HFM); clear HFM) | (refine wp_store_frd HF.out 2 27 _ _ rfl (y.start.cells GK.s.pa GK.s.pc GK.s.sa GK.s.sc) rfl rfl rfl rfl (by simp [P.cells]) (by omega) (by kernel_rfl) (by simp [Value.oneCell', P.cells]) ?_; intro WC zM HFM; (have HF := Lib.hid HFM); clear HFM) | (refine wp_store_frd HF.out 3 27 _ _ rfl (y.start.cells GK.s.pa GK.s.pc GK.s.sa GK.s.sc) rfl rfl rfl rfl (by simp [P.cells]) (by omega) (by kernel_rfl) (by simp [Value.oneCell', P.cells]) ?_; intro WC zM HFM; (have HF := Lib.hid HFM); clear HFM))
    refine hK.out _ _ ?_ (fun hHeld' => ?_)
    (focus ((try dsimp only); (first | done | ((exact HSK.out _ (HF.out.get (r := ⟨w.heap.size, w.heap.size + 1, BoxP w.heap.size (y.cells GK).toList⟩) (by (repeat (first | exact List.mem_cons_self | apply List.mem_cons_of_mem))))); done))))
    clear hK K hHeld
    have hHeld := hHeld'
    clear hHeld'
    (try simp only [Act.put, List.setIfInBounds_toArray, List.set_cons_zero, List.set_cons_succ])
    refine nextH (i := 5) (by decide +kernel) (by rfl) (by rfl) (fun K hK => ?_)
    (go_simp; refine gen_allocR HF.out #[.slice ca y.start.pits.length cc, .slice ta y.start.stores.length tc, .int .i64 y.start.player] 27 3 1 (by decide) rfl ?_; intro WC zM HFM; (have HF := Lib.hid HFM); clear HFM)
    refine hK.out _ _ ?_ (fun hHeld' => ?_)
    (focus ((try dsimp only); (first | done | ((exact HSK.out _ (HF.out.get (r := ⟨w.heap.size, w.heap.size + 1, BoxP w.heap.size (y.cells GK).toList⟩) (by (repeat (first | exact List.mem_cons_self | apply List.mem_cons_of_mem))))); done))))
    clear hK K hHeld
    have hHeld := hHeld'
    clear hHeld'
    (try simp only [Act.put, List.setIfInBounds_toArray, List.set_cons_zero, List.set_cons_succ])
    (refine takeH (i := 9) (v := ?_) (by decide +kernel) (by decide +kernel) (by kernel_rfl) (by rfl) (by exact fun _ _ _ h => h) (by rfl) ?_ (by assumption) ?_); rotate_left; (focus (intro w hSw; (try dsimp only at hSw); go_simp; (try with_reducible rfl); done)); (try simp only [Act.put, List.setIfInBounds_toArray, List.set_cons_zero, List.set_cons_succ])
    (refine takeH (i := 10) (v := ?_) (by decide +kernel) (by decide +kernel) (by kernel_rfl) (by rfl) (by exact fun _ _ _ h => h) (by rfl) ?_ (by assumption) ?_); rotate_left; (focus (intro w hSw; (try dsimp only at hSw); go_simp; (try with_reducible rfl); done)); (try simp only [Act.put, List.setIfInBounds_toArray, List.set_cons_zero, List.set_cons_succ])
    refine wpAnyH_done (by decide +kernel) ?_ _
    rotate_left
    (go_simp; refine gen_allocX HF.out #[.slice none 0 0, .slice none 0 0, .int .i64 0] 27 (by simp) ?_; intro WC zM HFM; (have HF := Lib.hid HFM); clear HFM)
    refine hK.out _ _ ?_ (fun hHeld' => ?_)
    (focus ((try dsimp only); (first | done | ((exact HSK.out _ (HF.out.get (r := ⟨w.heap.size, w.heap.size + 1, BoxP w.heap.size (y.cells GK).toList⟩) (by (repeat (first | exact List.mem_cons_self | apply List.mem_cons_of_mem))))); done))))
    clear hK K hHeld
    have hHeld := hHeld'
    clear hHeld'
    (try simp only [Act.put, List.setIfInBounds_toArray, List.set_cons_zero, List.set_cons_succ])
    refine bothH (i := 4) (j := 6) (by decide +kernel) (by rfl) (by rfl) (by rfl) (by rfl) (fun K hK => ?_) (fun K hK => ?_)
    (go_simp; go_at_call 85; (refine (copied_c y.start GK.s.pa GK.s.sa GK.s.pc GK.s.sc _ (HH.out.start.below HF.out.below (Nat.le_refl _)) m1 m2).mono ?_); (rintro e WC ⟨ca, cc, ta, tc, rfl, ho5, hb5⟩); (have HFM := HF.out.rows (A := ⟨ca, cc, ta, tc⟩) hb5 ho5); (have zM := hb5.size); (obtain ⟨cl, ch, hcl, hch, HFM⟩ : ∃ cl ch, cl = _ ∧ ch = WC.heap.size ∧ Frd w WC (⟨cl, ch, RowsP cl ch y.start ⟨ca, cc, ta, tc⟩⟩ :: _) := ⟨_, _, rfl, rfl, HFM⟩); (have zcl := Nat.le_of_eq hcl); (have zcl' := Nat.le_of_eq hcl.symm); (have zch := Nat.le_of_eq hch); clear hcl hch; (have HF := Lib.hid HFM); clear HFM ho5 hb5)
    refine hK.out _ _ ?_ (fun hHeld' => ?_)
    (focus ((try dsimp only); (first | done | ((exact HSK.out _ (HF.out.get (r := ⟨w.heap.size, w.heap.size + 1, BoxP w.heap.size (y.cells GK).toList⟩) (by (repeat (first | exact List.mem_cons_self | apply List.mem_cons_of_mem))))); done))))
    clear hK K hHeld
    have hHeld := hHeld'
    clear hHeld'
    (try simp only [Act.put, List.setIfInBounds_toArray, List.set_cons_zero, List.set_cons_succ])
    refine threeH (i := 5) (j := 6) (k := 8) (by decide +kernel) (by rfl) (by rfl) (by rfl) (by rfl) (by rfl) (by rfl) (fun K hK => ?_) (fun K hK => ?_) (fun K hK => ?_)
    (go_simp; refine gen_allocR HF.out #[.slice ca y.start.pits.length cc, .slice ta y.start.stores.length tc, .int .i64 y.start.player] 27 3 1 (by decide) rfl ?_; intro WC zM HFM; (have HF := Lib.hid HFM); clear HFM)
    refine hK.out _ _ ?_ (fun hHeld' => ?_)
    (focus ((try dsimp only); (first | done | ((exact HSK.out _ (HF.out.get (r := ⟨w.heap.size, w.heap.size + 1, BoxP w.heap.size (y.cells GK).toList⟩) (by (repeat (first | exact List.mem_cons_self | apply List.mem_cons_of_mem))))); done))))
    clear hK K hHeld
    have hHeld := hHeld'
    clear hHeld'
    (try simp only [Act.put, List.setIfInBounds_toArray, List.set_cons_zero, List.set_cons_succ])
    refine bothH (i := 6) (j := 8) (by decide +kernel) (by rfl) (by rfl) (by rfl) (by rfl) (fun K hK => ?_) (fun K hK => ?_)
    (go_simp; refine gen_allocR HF.out #[] 107 6 0 (by decide) rfl ?_; intro WC zM HFM; (have HF := Lib.hid HFM); clear HFM)
    refine hK.out _ _ ?_ (fun hHeld' => ?_)
    (focus ((try dsimp only); (first | done | ((exact HSK.out _ (HF.out.get (r := ⟨w.heap.size, w.heap.size + 1, BoxP w.heap.size (y.cells GK).toList⟩) (by (repeat (first | exact List.mem_cons_self | apply List.mem_cons_of_mem))))); done))))
    clear hK K hHeld
    have hHeld := hHeld'
    clear hHeld'
    (try simp only [Act.put, List.setIfInBounds_toArray, List.set_cons_zero, List.set_cons_succ])
    refine nextH (i := 8) (by decide +kernel) (by rfl) (by rfl) (fun K hK => ?_)
    (first | (refine wp_store_frd HF.out 0 27 _ _ rfl (y.start.cells GK.s.pa GK.s.pc GK.s.sa GK.s.sc) rfl rfl rfl rfl (by simp [P.cells]) (by omega) (by kernel_rfl) (by simp [Value.oneCell', P.cells]) ?_; intro WC zM HFM; (have HF := Lib.hid HFM); clear HFM) | (refine wp_store_frd HF.out 1 27 _ _ rfl (y.start.cells GK.s.pa GK.s.pc GK.s.sa GK.s.sc) rfl rfl rfl rfl (by simp [P.cells]) (by omega) (by kernel_rfl) (by simp [Value.oneCell', P.cells]) ?_; intro WC zM HFM; (have HF := Lib.hid HFM); clear HFM) | (refine wp_store_frd HF.out 2 27 _ _ rfl (y.start.cells GK.s.pa GK.s.pc GK.s.sa GK.s.sc) rfl rfl rfl rfl (by simp [P.cells]) (by omega) (by kernel_rfl) (by simp [Value.oneCell', P.cells]) ?_; intro WC zM HFM; (have HF := Lib.hid HFM); clear HFM) | (refine wp_store_frd HF.out 3 27 _ _ rfl (y.start.cells GK.s.pa GK.s.pc GK.s.sa GK.s.sc) rfl rfl rfl rfl (by simp [P.cells]) (by omega) (by kernel_rfl) (by simp [Value.oneCell', P.cells]) ?_; intro WC zM HFM; (have HF := Lib.hid HFM); clear HFM))
    refine hK.out _ _ ?_ (fun hHeld' => ?_)
    (focus ((try dsimp only); (first | done | ((exact HSK.out _ (HF.out.get (r := ⟨w.heap.size, w.heap.size + 1, BoxP w.heap.size (y.cells GK).toList⟩) (by (repeat (first | exact List.mem_cons_self | apply List.mem_cons_of_mem))))); done))))
    clear hK K hHeld
    have hHeld := hHeld'
    clear hHeld'
    (try simp only [Act.put, List.setIfInBounds_toArray, List.set_cons_zero, List.set_cons_succ])
    (refine takeH (i := 9) (v := ?_) (by decide +kernel) (by decide +kernel) (by kernel_rfl) (by rfl) (by exact fun _ _ _ h => h) (by rfl) ?_ (by assumption) ?_); rotate_left; (focus (intro w hSw; (try dsimp only at hSw); go_simp; (try with_reducible rfl); done)); (try simp only [Act.put, List.setIfInBounds_toArray, List.set_cons_zero, List.set_cons_succ])
    (refine takeH (i := 10) (v := ?_) (by decide +kernel) (by decide +kernel) (by kernel_rfl) (by rfl) (by exact fun _ _ _ h => h) (by rfl) ?_ (by assumption) ?_); rotate_left; (focus (intro w hSw; (try dsimp only at hSw); go_simp; (try with_reducible rfl); done)); (try simp only [Act.put, List.setIfInBounds_toArray, List.set_cons_zero, List.set_cons_succ])
    refine wpAnyH_done (by decide +kernel) ?_ _
    rotate_left
    (first | (refine wp_store_frd HF.out 0 27 _ _ rfl (y.start.cells GK.s.pa GK.s.pc GK.s.sa GK.s.sc) rfl rfl rfl rfl (by simp [P.cells]) (by omega) (by kernel_rfl) (by simp [Value.oneCell', P.cells]) ?_; intro WC zM HFM; (have HF := Lib.hid HFM); clear HFM) | (refine wp_store_frd HF.out 1 27 _ _ rfl (y.start.cells GK.s.pa GK.s.pc GK.s.sa GK.s.sc) rfl rfl rfl rfl (by simp [P.cells]) (by omega) (by kernel_rfl) (by simp [Value.oneCell', P.cells]) ?_; intro WC zM HFM; (have HF := Lib.hid HFM); clear HFM) | (refine wp_store_frd HF.out 2 27 _ _ rfl (y.start.cells GK.s.pa GK.s.pc GK.s.sa GK.s.sc) rfl rfl rfl rfl (by simp [P.cells]) (by omega) (by kernel_rfl) (by simp [Value.oneCell', P.cells]) ?_; intro WC zM HFM; (have HF := Lib.hid HFM); clear HFM) | (refine wp_store_frd HF.out 3 27 _ _ rfl (y.start.cells GK.s.pa GK.s.pc GK.s.sa GK.s.sc) rfl rfl rfl rfl (by simp [P.cells]) (by omega) (by kernel_rfl) (by simp [Value.oneCell', P.cells]) ?_; intro WC zM HFM; (have HF := Lib.hid HFM); clear HFM))
    refine hK.out _ _ ?_ (fun hHeld' => ?_)
    (focus ((try dsimp only); (first | done | ((exact HSK.out _ (HF.out.get (r := ⟨w.heap.size, w.heap.size + 1, BoxP w.heap.size (y.cells GK).toList⟩) (by (repeat (first | exact List.mem_cons_self | apply List.mem_cons_of_mem))))); done))))
    clear hK K hHeld
    have hHeld := hHeld'
    clear hHeld'
    (try simp only [Act.put, List.setIfInBounds_toArray, List.set_cons_zero, List.set_cons_succ])
    (refine takeH (i := 9) (v := ?_) (by decide +kernel) (by decide +kernel) (by kernel_rfl) (by rfl) (by exact fun _ _ _ h => h) (by rfl) ?_ (by assumption) ?_); rotate_left; (focus (intro w hSw; (try dsimp only at hSw); go_simp; (try with_reducible rfl); done)); (try simp only [Act.put, List.setIfInBounds_toArray, List.set_cons_zero, List.set_cons_succ])
    refine nextH (i := 6) (by decide +kernel) (by rfl) (by rfl) (fun K hK => ?_)
    (go_simp; refine gen_allocR HF.out #[] 107 6 0 (by decide) rfl ?_; intro WC zM HFM; (have HF := Lib.hid HFM); clear HFM)
    refine hK.out _ _ ?_ (fun hHeld' => ?_)
    (focus ((try dsimp only); (first | done | ((exact HSK.out _ (HF.out.get (r := ⟨w.heap.size, w.heap.size + 1, BoxP w.heap.size (y.cells GK).toList⟩) (by (repeat (first | exact List.mem_cons_self | apply List.mem_cons_of_mem))))); done))))
    clear hK K hHeld
    have hHeld := hHeld'
    clear hHeld'
    (try simp only [Act.put, List.setIfInBounds_toArray, List.set_cons_zero, List.set_cons_succ])
    (refine takeH (i := 10) (v := ?_) (by decide +kernel) (by decide +kernel) (by kernel_rfl) (by rfl) (by exact fun _ _ _ h => h) (by rfl) ?_ (by assumption) ?_); rotate_left; (focus (intro w hSw; (try dsimp only at hSw); go_simp; (try with_reducible rfl); done)); (try simp only [Act.put, List.setIfInBounds_toArray, List.set_cons_zero, List.set_cons_succ])
    refine wpAnyH_done (by decide +kernel) ?_ _
    rotate_left
    (go_simp; refine gen_allocR HF.out #[] 107 6 0 (by decide) rfl ?_; intro WC zM HFM; (have HF := Lib.hid HFM); clear HFM)
    refine hK.out _ _ ?_ (fun hHeld' => ?_)
    (focus ((try dsimp only); (first | done | ((exact HSK.out _ (HF.out.get (r := ⟨w.heap.size, w.heap.size + 1, BoxP w.heap.size (y.cells GK).toList⟩) (by (repeat (first | exact List.mem_cons_self | apply List.mem_cons_of_mem))))); done))))
    clear hK K hHeld
    have hHeld := hHeld'
    clear hHeld'
    (try simp only [Act.put, List.setIfInBounds_toArray, List.set_cons_zero, List.set_cons_succ])
    refine bothH (i := 5) (j := 8) (by decide +kernel) (by rfl) (by rfl) (by rfl) (by rfl) (fun K hK => ?_) (fun K hK => ?_)
    (go_simp; refine gen_allocR HF.out #[.slice ca y.start.pits.length cc, .slice ta y.start.stores.length tc, .int .i64 y.start.player] 27 3 1 (by decide) rfl ?_; intro WC zM HFM; (have HF := Lib.hid HFM); clear HFM)
    refine hK.out _ _ ?_ (fun hHeld' => ?_)
    (focus ((try dsimp only); (first | done | ((exact HSK.out _ (HF.out.get (r := ⟨w.heap.size, w.heap.size + 1, BoxP w.heap.size (y.cells GK).toList⟩) (by (repeat (first | exact List.mem_cons_self | apply List.mem_cons_of_mem))))); done))))
    clear hK K hHeld
    have hHeld := hHeld'
    clear hHeld'
    (try simp only [Act.put, List.setIfInBounds_toArray, List.set_cons_zero, List.set_cons_succ])
    refine nextH (i := 8) (by decide +kernel) (by rfl) (by rfl) (fun K hK => ?_)
    (first | (refine wp_store_frd HF.out 0 27 _ _ rfl (y.start.cells GK.s.pa GK.s.pc GK.s.sa GK.s.sc) rfl rfl rfl rfl (by simp [P.cells]) (by omega) (by kernel_rfl) (by simp [Value.oneCell', P.cells]) ?_; intro WC zM HFM; (have HF := Lib.hid HFM); clear HFM) | (refine wp_store_frd HF.out 1 27 _ _ rfl (y.start.cells GK.s.pa GK.s.pc GK.s.sa GK.s.sc) rfl rfl rfl rfl (by simp [P.cells]) (by omega) (by kernel_rfl) (by simp [Value.oneCell', P.cells]) ?_; intro WC zM HFM; (have HF := Lib.hid HFM); clear HFM) | (refine wp_store_frd HF.out 2 27 _ _ rfl (y.start.cells GK.s.pa GK.s.pc GK.s.sa GK.s.sc) rfl rfl rfl rfl (by simp [P.cells]) (by omega) (by kernel_rfl) (by simp [Value.oneCell', P.cells]) ?_; intro WC zM HFM; (have HF := Lib.hid HFM); clear HFM) | (refine wp_store_frd HF.out 3 27 _ _ rfl (y.start.cells GK.s.pa GK.s.pc GK.s.sa GK.s.sc) rfl rfl rfl rfl (by simp [P.cells]) (by omega) (by kernel_rfl) (by simp [Value.oneCell', P.cells]) ?_; intro WC zM HFM; (have HF := Lib.hid HFM); clear HFM))
    refine hK.out _ _ ?_ (fun hHeld' => ?_)
    (focus ((try dsimp only); (first | done | ((exact HSK.out _ (HF.out.get (r := ⟨w.heap.size, w.heap.size + 1, BoxP w.heap.size (y.cells GK).toList⟩) (by (repeat (first | exact List.mem_cons_self | apply List.mem_cons_of_mem))))); done))))
    clear hK K hHeld
    have hHeld := hHeld'
    clear hHeld'
    (try simp only [Act.put, List.setIfInBounds_toArray, List.set_cons_zero, List.set_cons_succ])
    (refine takeH (i := 9) (v := ?_) (by decide +kernel) (by decide +kernel) (by kernel_rfl) (by rfl) (by exact fun _ _ _ h => h) (by rfl) ?_ (by assumption) ?_); rotate_left; (focus (intro w hSw; (try dsimp only at hSw); go_simp; (try with_reducible rfl); done)); (try simp only [Act.put, List.setIfInBounds_toArray, List.set_cons_zero, List.set_cons_succ])
    (refine takeH (i := 10) (v := ?_) (by decide +kernel) (by decide +kernel) (by kernel_rfl) (by rfl) (by exact fun _ _ _ h => h) (by rfl) ?_ (by assumption) ?_); rotate_left; (focus (intro w hSw; (try dsimp only at hSw); go_simp; (try with_reducible rfl); done)); (try simp only [Act.put, List.setIfInBounds_toArray, List.set_cons_zero, List.set_cons_succ])
    refine wpAnyH_done (by decide +kernel) ?_ _
    rotate_left
    (first | (refine wp_store_frd HF.out 0 27 _ _ rfl (y.start.cells GK.s.pa GK.s.pc GK.s.sa GK.s.sc) rfl rfl rfl rfl (by simp [P.cells]) (by omega) (by kernel_rfl) (by simp [Value.oneCell', P.cells]) ?_; intro WC zM HFM; (have HF := Lib.hid HFM); clear HFM) | (refine wp_store_frd HF.out 1 27 _ _ rfl (y.start.cells GK.s.pa GK.s.pc GK.s.sa GK.s.sc) rfl rfl rfl rfl (by simp [P.cells]) (by omega) (by kernel_rfl) (by simp [Value.oneCell', P.cells]) ?_; intro WC zM HFM; (have HF := Lib.hid HFM); clear HFM) | (refine wp_store_frd HF.out 2 27 _ _ rfl (y.start.cells GK.s.pa GK.s.pc GK.s.sa GK.s.sc) rfl rfl rfl rfl (by simp [P.cells]) (by omega) (by kernel_rfl) (by simp [Value.oneCell', P.cells]) ?_; intro WC zM HFM; (have HF := Lib.hid HFM); clear HFM) | (refine wp_store_frd HF.out 3 27 _ _ rfl (y.start.cells GK.s.pa GK.s.pc GK.s.sa GK.s.sc) rfl rfl rfl rfl (by simp [P.cells]) (by omega) (by kernel_rfl) (by simp [Value.oneCell', P.cells]) ?_; intro WC zM HFM; (have HF := Lib.hid HFM); clear HFM))
    refine hK.out _ _ ?_ (fun hHeld' => ?_)
    (focus ((try dsimp only); (first | done | ((exact HSK.out _ (HF.out.get (r := ⟨w.heap.size, w.heap.size + 1, BoxP w.heap.size (y.cells GK).toList⟩) (by (repeat (first | exact List.mem_cons_self | apply List.mem_cons_of_mem))))); done))))
    clear hK K hHeld
    have hHeld := hHeld'
    clear hHeld'
    (try simp only [Act.put, List.setIfInBounds_toArray, List.set_cons_zero, List.set_cons_succ])
    refine nextH (i := 5) (by decide +kernel) (by rfl) (by rfl) (fun K hK => ?_)
    (go_simp; refine gen_allocR HF.out #[.slice ca y.start.pits.length cc, .slice ta y.start.stores.length tc, .int .i64 y.start.player] 27 3 1 (by decide) rfl ?_; intro WC zM HFM; (have HF := Lib.hid HFM); clear HFM)
    refine hK.out _ _ ?_ (fun hHeld' => ?_)
    (focus ((try dsimp only); (first | done | ((exact HSK.out _ (HF.out.get (r := ⟨w.heap.size, w.heap.size + 1, BoxP w.heap.size (y.cells GK).toList⟩) (by (repeat (first | exact List.mem_cons_self | apply List.mem_cons_of_mem))))); done))))
    clear hK K hHeld
    have hHeld := hHeld'
    clear hHeld'
    (try simp only [Act.put, List.setIfInBounds_toArray, List.set_cons_zero, List.set_cons_succ])
    (refine takeH (i := 9) (v := ?_) (by decide +kernel) (by decide +kernel) (by kernel_rfl) (by rfl) (by exact fun _ _ _ h => h) (by rfl) ?_ (by assumption) ?_); rotate_left; (focus (intro w hSw; (try dsimp only at hSw); go_simp; (try with_reducible rfl); done)); (try simp only [Act.put, List.setIfInBounds_toArray, List.set_cons_zero, List.set_cons_succ])
    (refine takeH (i := 10) (v := ?_) (by decide +kernel) (by decide +kernel) (by kernel_rfl) (by rfl) (by exact fun _ _ _ h => h) (by rfl) ?_ (by assumption) ?_); rotate_left; (focus (intro w hSw; (try dsimp only at hSw); go_simp; (try with_reducible rfl); done)); (try simp only [Act.put, List.setIfInBounds_toArray, List.set_cons_zero, List.set_cons_succ])
    refine wpAnyH_done (by decide +kernel) ?_ _
    rotate_left
    (first | (refine wp_store_frd HF.out 0 27 _ _ rfl (y.start.cells GK.s.pa GK.s.pc GK.s.sa GK.s.sc) rfl rfl rfl rfl (by simp [P.cells]) (by omega) (by kernel_rfl) (by simp [Value.oneCell', P.cells]) ?_; intro WC zM HFM; (have HF := Lib.hid HFM); clear HFM) | (refine wp_store_frd HF.out 1 27 _ _ rfl (y.start.cells GK.s.pa GK.s.pc GK.s.sa GK.s.sc) rfl rfl rfl rfl (by simp [P.cells]) (by omega) (by kernel_rfl) (by simp [Value.oneCell', P.cells]) ?_; intro WC zM HFM; (have HF := Lib.hid HFM); clear HFM) | (refine wp_store_frd HF.out 2 27 _ _ rfl (y.start.cells GK.s.pa GK.s.pc GK.s.sa GK.s.sc) rfl rfl rfl rfl (by simp [P.cells]) (by omega) (by kernel_rfl) (by simp [Value.oneCell', P.cells]) ?_; intro WC zM HFM; (have HF := Lib.hid HFM); clear HFM) | (refine wp_store_frd HF.out 3 27 _ _ rfl (y.start.cells GK.s.pa GK.s.pc GK.s.sa GK.s.sc) rfl rfl rfl rfl (by simp [P.cells]) (by omega) (by kernel_rfl) (by simp [Value.oneCell', P.cells]) ?_; intro WC zM HFM; (have HF := Lib.hid HFM); clear HFM))
    refine hK.out _ _ ?_ (fun hHeld' => ?_)
    (focus ((try dsimp only); (first | done | ((exact HSK.out _ (HF.out.get (r := ⟨w.heap.size, w.heap.size + 1, BoxP w.heap.size (y.cells GK).toList⟩) (by (repeat (first | exact List.mem_cons_self | apply List.mem_cons_of_mem))))); done))))
    clear hK K hHeld
    have hHeld := hHeld'
    clear hHeld'
    (try simp only [Act.put, List.setIfInBounds_toArray, List.set_cons_zero, List.set_cons_succ])
    refine bothH (i := 5) (j := 6) (by decide +kernel) (by rfl) (by rfl) (by rfl) (by rfl) (fun K hK => ?_) (fun K hK => ?_)
    (go_simp; refine gen_allocR HF.out #[.slice ca y.start.pits.length cc, .slice ta y.start.stores.length tc, .int .i64 y.start.player] 27 3 1 (by decide) rfl ?_; intro WC zM HFM; (have HF := Lib.hid HFM); clear HFM)
    refine hK.out _ _ ?_ (fun hHeld' => ?_)
    (focus ((try dsimp only); (first | done | ((exact HSK.out _ (HF.out.get (r := ⟨w.heap.size, w.heap.size + 1, BoxP w.heap.size (y.cells GK).toList⟩) (by (repeat (first | exact List.mem_cons_self | apply List.mem_cons_of_mem))))); done))))
    clear hK K hHeld
    have hHeld := hHeld'
    clear hHeld'
    (try simp only [Act.put, List.setIfInBounds_toArray, List.set_cons_zero, List.set_cons_succ])
    (refine takeH (i := 9) (v := ?_) (by decide +kernel) (by decide +kernel) (by kernel_rfl) (by rfl) (by exact fun _ _ _ h => h) (by rfl) ?_ (by assumption) ?_); rotate_left; (focus (intro w hSw; (try dsimp only at hSw); go_simp; (try with_reducible rfl); done)); (try simp only [Act.put, List.setIfInBounds_toArray, List.set_cons_zero, List.set_cons_succ])
    refine nextH (i := 6) (by decide +kernel) (by rfl) (by rfl) (fun K hK => ?_)
    (go_simp; refine gen_allocR HF.out #[] 107 6 0 (by decide) rfl ?_; intro WC zM HFM; (have HF := Lib.hid HFM); clear HFM)
    refine hK.out _ _ ?_ (fun hHeld' => ?_)
    (focus ((try dsimp only); (first | done | ((exact HSK.out _ (HF.out.get (r := ⟨w.heap.size, w.heap.size + 1, BoxP w.heap.size (y.cells GK).toList⟩) (by (repeat (first | exact List.mem_cons_self | apply List.mem_cons_of_mem))))); done))))
    clear hK K hHeld
    have hHeld := hHeld'
    clear hHeld'
    (try simp only [Act.put, List.setIfInBounds_toArray, List.set_cons_zero, List.set_cons_succ])
    (refine takeH (i := 10) (v := ?_) (by decide +kernel) (by decide +kernel) (by kernel_rfl) (by rfl) (by exact fun _ _ _ h => h) (by rfl) ?_ (by assumption) ?_); rotate_left; (focus (intro w hSw; (try dsimp only at hSw); go_simp; (try with_reducible rfl); done)); (try simp only [Act.put, List.setIfInBounds_toArray, List.set_cons_zero, List.set_cons_succ])
    refine wpAnyH_done (by decide +kernel) ?_ _
    rotate_left
    (go_simp; refine gen_allocR HF.out #[] 107 6 0 (by decide) rfl ?_; intro WC zM HFM; (have HF := Lib.hid HFM); clear HFM)
    refine hK.out _ _ ?_ (fun hHeld' => ?_)
    (focus ((try dsimp only); (first | done | ((exact HSK.out _ (HF.out.get (r := ⟨w.heap.size, w.heap.size + 1, BoxP w.heap.size (y.cells GK).toList⟩) (by (repeat (first | exact List.mem_cons_self | apply List.mem_cons_of_mem))))); done))))
    clear hK K hHeld
    have hHeld := hHeld'
    clear hHeld'
    (try simp only [Act.put, List.setIfInBounds_toArray, List.set_cons_zero, List.set_cons_succ])
    refine nextH (i := 5) (by decide +kernel) (by rfl) (by rfl) (fun K hK => ?_)
    (go_simp; refine gen_allocR HF.out #[.slice ca y.start.pits.length cc, .slice ta y.start.stores.length tc, .int .i64 y.start.player] 27 3 1 (by decide) rfl ?_; intro WC zM HFM; (have HF := Lib.hid HFM); clear HFM)
    refine hK.out _ _ ?_ (fun hHeld' => ?_)
    (focus ((try dsimp only); (first | done | ((exact HSK.out _ (HF.out.get (r := ⟨w.heap.size, w.heap.size + 1, BoxP w.heap.size (y.cells GK).toList⟩) (by (repeat (first | exact List.mem_cons_self | apply List.mem_cons_of_mem))))); done))))
    clear hK K hHeld
    have hHeld := hHeld'
    clear hHeld'
    (try simp only [Act.put, List.setIfInBounds_toArray, List.set_cons_zero, List.set_cons_succ])
    (refine takeH (i := 9) (v := ?_) (by decide +kernel) (by decide +kernel) (by kernel_rfl) (by rfl) (by exact fun _ _ _ h => h) (by rfl) ?_ (by assumption) ?_); rotate_left; (focus (intro w hSw; (try dsimp only at hSw); go_simp; (try with_reducible rfl); done)); (try simp only [Act.put, List.setIfInBounds_toArray, List.set_cons_zero, List.set_cons_succ])
    (refine takeH (i := 10) (v := ?_) (by decide +kernel) (by decide +kernel) (by kernel_rfl) (by rfl) (by exact fun _ _ _ h => h) (by rfl) ?_ (by assumption) ?_); rotate_left; (focus (intro w hSw; (try dsimp only at hSw); go_simp; (try with_reducible rfl); done)); (try simp only [Act.put, List.setIfInBounds_toArray, List.set_cons_zero, List.set_cons_succ])
    refine wpAnyH_done (by decide +kernel) ?_ _
    rotate_left
    (go_simp; refine gen_allocR HF.out #[] 107 6 0 (by decide) rfl ?_; intro WC zM HFM; (have HF := Lib.hid HFM); clear HFM)
    refine hK.out _ _ ?_ (fun hHeld' => ?_)
    (focus ((try dsimp only); (first | done | ((exact HSK.out _ (HF.out.get (r := ⟨w.heap.size, w.heap.size + 1, BoxP w.heap.size (y.cells GK).toList⟩) (by (repeat (first | exact List.mem_cons_self | apply List.mem_cons_of_mem))))); done))))
    clear hK K hHeld
    have hHeld := hHeld'
    clear hHeld'
    (try simp only [Act.put, List.setIfInBounds_toArray, List.set_cons_zero, List.set_cons_succ])
    refine nextH (i := 4) (by decide +kernel) (by rfl) (by rfl) (fun K hK => ?_)
    (go_simp; go_at_call 85; (refine (copied_c y.start GK.s.pa GK.s.sa GK.s.pc GK.s.sc _ (HH.out.start.below HF.out.below (Nat.le_refl _)) m1 m2).mono ?_); (rintro e WC ⟨ca, cc, ta, tc, rfl, ho5, hb5⟩); (have HFM := HF.out.rows (A := ⟨ca, cc, ta, tc⟩) hb5 ho5); (have zM := hb5.size); (obtain ⟨cl, ch, hcl, hch, HFM⟩ : ∃ cl ch, cl = _ ∧ ch = WC.heap.size ∧ Frd w WC (⟨cl, ch, RowsP cl ch y.start ⟨ca, cc, ta, tc⟩⟩ :: _) := ⟨_, _, rfl, rfl, HFM⟩); (have zcl := Nat.le_of_eq hcl); (have zcl' := Nat.le_of_eq hcl.symm); (have zch := Nat.le_of_eq hch); clear hcl hch; (have HF := Lib.hid HFM); clear HFM ho5 hb5)
    refine hK.out _ _ ?_ (fun hHeld' => ?_)
    (focus ((try dsimp only); (first | done | ((exact HSK.out _ (HF.out.get (r := ⟨w.heap.size, w.heap.size + 1, BoxP w.heap.size (y.cells GK).toList⟩) (by (repeat (first | exact List.mem_cons_self | apply List.mem_cons_of_mem))))); done))))
    clear hK K hHeld
    have hHeld := hHeld'
    clear hHeld'
    (try simp only [Act.put, List.setIfInBounds_toArray, List.set_cons_zero, List.set_cons_succ])
    refine bothH (i := 5) (j := 8) (by decide +kernel) (by rfl) (by rfl) (by rfl) (by rfl) (fun K hK => ?_) (fun K hK => ?_)
    (go_simp; refine gen_allocR HF.out #[.slice ca y.start.pits.length cc, .slice ta y.start.stores.length tc, .int .i64 y.start.player] 27 3 1 (by decide) rfl ?_; intro WC zM HFM; (have HF := Lib.hid HFM); clear HFM)
    refine hK.out _ _ ?_ (fun hHeld' => ?_)
    (focus ((try dsimp only); (first | done | ((exact HSK.out _ (HF.out.get (r := ⟨w.heap.size, w.heap.size + 1, BoxP w.heap.size (y.cells GK).toList⟩) (by (repeat (first | exact List.mem_cons_self | apply List.mem_cons_of_mem))))); done))))
    clear hK K hHeld
    have hHeld := hHeld'
    clear hHeld'
    (try simp only [Act.put, List.setIfInBounds_toArray, List.set_cons_zero, List.set_cons_succ])
    refine nextH (i := 8) (by decide +kernel) (by rfl) (by rfl) (fun K hK => ?_)
    (first | (refine wp_store_frd HF.out 0 27 _ _ rfl (y.start.cells GK.s.pa GK.s.pc GK.s.sa GK.s.sc) rfl rfl rfl rfl (by simp [P.cells]) (by omega) (by kernel_rfl) (by simp [Value.oneCell', P.cells]) ?_; intro WC zM HFM; (have HF := Lib.hid HFM); clear HFM) | (refine wp_store_frd HF.out 1 27 _ _ rfl (y.start.cells GK.s.pa GK.s.pc GK.s.sa GK.s.sc) rfl rfl rfl rfl (by simp [P.cells]) (by omega) (by kernel_rfl) (by simp [Value.oneCell', P.cells]) ?_; intro WC zM HFM; (have HF := Lib.hid HFM); clear HFM) | (refine wp_store_frd HF.out 2 27 _ _ rfl (y.start.cells GK.s.pa GK.s.pc GK.s.sa GK.s.sc) rfl rfl rfl rfl (by simp [P.cells]) (by omega) (by kernel_rfl) (by simp [Value.oneCell', P.cells]) ?_; intro WC zM HFM; (have HF := Lib.hid HFM); clear HFM) | (refine wp_store_frd HF.out 3 27 _ _ rfl (y.start.cells GK.s.pa GK.s.pc GK.s.sa GK.s.sc) rfl rfl rfl rfl (by simp [P.cells]) (by omega) (by kernel_rfl) (by simp [Value.oneCell', P.cells]) ?_; intro WC zM HFM; (have HF := Lib.hid HFM); clear HFM))
    refine hK.out _ _ ?_ (fun hHeld' => ?_)
    (focus ((try dsimp only); (first | done | ((exact HSK.out _ (HF.out.get (r := ⟨w.heap.size, w.heap.size + 1, BoxP w.heap.size (y.cells GK).toList⟩) (by (repeat (first | exact List.mem_cons_self | apply List.mem_cons_of_mem))))); done))))
    clear hK K hHeld
    have hHeld := hHeld'
    clear hHeld'
    (try simp only [Act.put, List.setIfInBounds_toArray, List.set_cons_zero, List.set_cons_succ])
    (refine takeH (i := 9) (v := ?_) (by decide +kernel) (by decide +kernel) (by kernel_rfl) (by rfl) (by exact fun _ _ _ h => h) (by rfl) ?_ (by assumption) ?_); rotate_left; (focus (intro w hSw; (try dsimp only at hSw); go_simp; (try with_reducible rfl); done)); (try simp only [Act.put, List.setIfInBounds_toArray, List.set_cons_zero, List.set_cons_succ])
    (refine takeH (i := 10) (v := ?_) (by decide +kernel) (by decide +kernel) (by kernel_rfl) (by rfl) (by exact fun _ _ _ h => h) (by rfl) ?_ (by assumption) ?_); rotate_left; (focus (intro w hSw; (try dsimp only at hSw); go_simp; (try with_reducible rfl); done)); (try simp only [Act.put, List.setIfInBounds_toArray, List.set_cons_zero, List.set_cons_succ])
    refine wpAnyH_done (by decide +kernel) ?_ _
    rotate_left
    (first | (refine wp_store_frd HF.out 0 27 _ _ rfl (y.start.cells GK.s.pa GK.s.pc GK.s.sa GK.s.sc) rfl rfl rfl rfl (by simp [P.cells]) (by omega) (by kernel_rfl) (by simp [Value.oneCell', P.cells]) ?_; intro WC zM HFM; (have HF := Lib.hid HFM); clear HFM) | (refine wp_store_frd HF.out 1 27 _ _ rfl (y.start.cells GK.s.pa GK.s.pc GK.s.sa GK.s.sc) rfl rfl rfl rfl (by simp [P.cells]) (by omega) (by kernel_rfl) (by simp [Value.oneCell', P.cells]) ?_; intro WC zM HFM; (have HF := Lib.hid HFM); clear HFM) | (refine wp_store_frd HF.out 2 27 _ _ rfl (y.start.cells GK.s.pa GK.s.pc GK.s.sa GK.s.sc) rfl rfl rfl rfl (by simp [P.cells]) (by omega) (by kernel_rfl) (by simp [Value.oneCell', P.cells]) ?_; intro WC zM HFM; (have HF := Lib.hid HFM); clear HFM) | (refine wp_store_frd HF.out 3 27 _ _ rfl (y.start.cells GK.s.pa GK.s.pc GK.s.sa GK.s.sc) rfl rfl rfl rfl (by simp [P.cells]) (by omega) (by kernel_rfl) (by simp [Value.oneCell', P.cells]) ?_; intro WC zM HFM; (have HF := Lib.hid HFM); clear HFM))
    refine hK.out _ _ ?_ (fun hHeld' => ?_)
    (focus ((try dsimp only); (first | done | ((exact HSK.out _ (HF.out.get (r := ⟨w.heap.size, w.heap.size + 1, BoxP w.heap.size (y.cells GK).toList⟩) (by (repeat (first | exact List.mem_cons_self | apply List.mem_cons_of_mem))))); done))))
    clear hK K hHeld
    have hHeld := hHeld'
    clear hHeld'
    (try simp only [Act.put, List.setIfInBounds_toArray, List.set_cons_zero, List.set_cons_succ])
    refine nextH (i := 5) (by decide +kernel) (by rfl) (by rfl) (fun K hK => ?_)
    (go_simp; refine gen_allocR HF.out #[.slice ca y.start.pits.length cc, .slice ta y.start.stores.length tc, .int .i64 y.start.player] 27 3 1 (by decide) rfl ?_; intro WC zM HFM; (have HF := Lib.hid HFM); clear HFM)
    refine hK.out _ _ ?_ (fun hHeld' => ?_)
    (focus ((try dsimp only); (first | done | ((exact HSK.out _ (HF.out.get (r := ⟨w.heap.size, w.heap.size + 1, BoxP w.heap.size (y.cells GK).toList⟩) (by (repeat (first | exact List.mem_cons_self | apply List.mem_cons_of_mem))))); done))))
    clear hK K hHeld
    have hHeld := hHeld'
    clear hHeld'
    (try simp only [Act.put, List.setIfInBounds_toArray, List.set_cons_zero, List.set_cons_succ])
    (refine takeH (i := 9) (v := ?_) (by decide +kernel) (by decide +kernel) (by kernel_rfl) (by rfl) (by exact fun _ _ _ h => h) (by rfl) ?_ (by assumption) ?_); rotate_left; (focus (intro w hSw; (try dsimp only at hSw); go_simp; (try with_reducible rfl); done)); (try simp only [Act.put, List.setIfInBounds_toArray, List.set_cons_zero, List.set_cons_succ])
    (refine takeH (i := 10) (v := ?_) (by decide +kernel) (by decide +kernel) (by kernel_rfl) (by rfl) (by exact fun _ _ _ h => h) (by rfl) ?_ (by assumption) ?_); rotate_left; (focus (intro w hSw; (try dsimp only at hSw); go_simp; (try with_reducible rfl); done)); (try simp only [Act.put, List.setIfInBounds_toArray, List.set_cons_zero, List.set_cons_succ])
    refine wpAnyH_done (by decide +kernel) ?_ _
    all_goals (try (go_wp2_with fail))
    all_goals go_meet
    all_goals (
      refine ⟨⟨ca, cc, ta, tc⟩, _, _, _, _, _, 0, w.heap.size, cl, ch, rfl, rfl, rfl, rfl, ⟨Nat.zero_le _, HT.out.symm, ⟨HF.out.fr.sub (fun r hr => ?_), ?_⟩, by omega, rfl, m1, m2, hc, hcm⟩⟩
      · simp only [List.mem_cons, List.not_mem_nil, or_false] at hr
        rcases hr with rfl | rfl | rfl | rfl | rfl | rfl <;> (repeat (first | exact List.mem_cons_self | apply List.mem_cons_of_mem))
      · refine List.pairwise_cons.2 ⟨?_, List.pairwise_cons.2 ⟨?_, List.pairwise_cons.2 ⟨?_, List.pairwise_cons.2 ⟨?_, List.pairwise_cons.2 ⟨?_, List.pairwise_singleton _ _⟩⟩⟩⟩⟩ <;> simp only [List.forall_mem_cons, Apt] <;> (repeat' apply And.intro) <;> (first | exact forall_mem_nil | omega))
  case rest =>
  obtain ⟨C0, og0, oc0, gg0, gc0, B, ql0, qh0, cl0, ch0, rfl, rfl, rfl, rfl, hst0⟩ := hcut
  have HST0 := Lib.hid hst0
  have d3 := hst0.dis.2.2
  have hG0 := hst0.fr.at 5 rfl
  have c12 := hG0 12 _ rfl
  clear hst0 HF0 hG0 c9 c10 c11 HX
  go_wp2_with fail
  go_loopw [6, 7, 22] (fun o gs i wr => ∃ (k : Nat) (q : P) (A C : A2) (og oc gg gc ql qh cl ch : Nat) (us vs : List Value), i = .int .i64 k ∧ o = .slice (some ⟨og, 0, none⟩) (k + 1) oc ∧ gs = .slice (some ⟨gg, 0, none⟩) k gc ∧ PdSt w wr y (y.cells GK).toList t k q A C og oc gg gc B ql qh cl ch us vs) (fun _ _ i _ => y.moves.length - (intOf i).toNat)
  case atStart => exact ⟨0, y.start, _, _, _, _, _, _, _, _, _, _, _, _, rfl, rfl, rfl, HST0.out⟩
  case round =>
    clear HST0 c12
    obtain ⟨k, q, A, C, og, oc, gg, gc, ql, qh, cl, ch, us, vs, rfl, rfl, rfl, hst⟩ := hrel
    have HST := Lib.hid hst
    have hkl := hst.kl
    have hul := Lib.hid hst.ul
    obtain ⟨d1, d2, _⟩ := hst.dis
    have n1 := hst.m1
    have n2 := hst.m2
    have HF := Lib.hid hst.fr
    clear hst
    by_cases hk : k < y.moves.length
    case neg =>
      have HT2 : Hid (t = some q) := by
        have h1 := HST.out.go
        rw [List.drop_eq_nil_of_le (by omega)] at h1
        exact h1.symm
      have hkk : k = y.moves.length := by omega
      go_wp2
      refine bodyPost_ret (results_tmp3 rfl _ _ _) rfl ?_
      refine ⟨_, _, _, _, _, _, by rw [HT2.out]; rfl, ?_, HF.out.below⟩
      intro q' hq'
      rw [HT2.out] at hq'
      cases hq'
      have HO := HF.out.at 0 rfl
      have hcell : ∀ j v, (q.cells C.pa C.pc C.sa C.sc).toList[j]? = some v → wr.cell? ⟨og, k * 3 + j, none⟩ = some v := fun j v hv => by
        have hb := own_row HO (k * 3 + j) v (by rw [List.getElem?_append_right (by rw [hul.out]; omega), hul.out]; simpa using hv)
        obtain ⟨b', o', e', hc'⟩ := hb
        cases e'
        simpa using hc'
      exact ⟨C, og, rfl, by omega, by omega, ⟨hcell 0 _ rfl, hcell 1 _ rfl, hcell 2 _ rfl⟩, (HF.out.at 4 rfl).1, n1, n2⟩
    obtain ⟨mv, hmv⟩ : ∃ mv, mv = y.moves[k] := ⟨_, rfl⟩
    obtain ⟨mb, mo, hma, hmb, hmcs⟩ := Ints.open (HH.out.moves.below HF.out.below (Nat.le_refl _)) (by omega)
    have hcm2 : wr.cell? ⟨mb, mo + k, none⟩ = some (.int .i64 mv) := by rw [hmv]; exact hmcs k hk
    obtain ⟨z, hz⟩ : ∃ z, z = makeP y.rules q mv := ⟨_, rfl⟩
    have HGO : Hid (t = if z.code = 0 then runGo y.rules ⟨z.pits, z.stores, z.player⟩ (y.moves.drop (k + 1)) else none) := by
      have h1 := HST.out.go
      rw [List.drop_eq_getElem_cons hk, ← hmv] at h1
      rw [hz]
      exact h1.symm
    have HGN : Hid (z.code = 0 → 0 ≤ z.gain ∧ z.gain ≤ 2000 ∧ z.pits.length ≤ 16777216 ∧ z.stores.length ≤ 16777216) := fun hh => by rw [hz] at hh ⊢; exact makeP_gain hh
    have HR := Lib.hid (resultOf_c y.rules q mv A.pa A.sa A.pc A.sc wr (HF.out.at 3 rfl).1 n1 n2 HST.out.hc HST.out.hcm)
    rw [← hz] at HR
    obtain ⟨s0, s1, s2⟩ := (⟨(HF.out.at 2 rfl).box 0 _ rfl, (HF.out.at 2 rfl).box 1 _ rfl, (HF.out.at 2 rfl).box 2 _ rfl⟩ : _ ∧ _ ∧ _)
    have hG := HF.out.at 5 rfl
    obtain ⟨c0, c1, c2, c3, c4, c5, c6, c7, c8⟩ := (⟨hG 0 _ rfl, hG 1 _ rfl, hG 2 _ rfl, hG 3 _ rfl, hG 4 _ rfl, hG 5 _ rfl, hG 6 _ rfl, hG 7 _ rfl, hG 8 _ rfl⟩ : _ ∧ _ ∧ _ ∧ _ ∧ _ ∧ _ ∧ _ ∧ _ ∧ _)
    have hki : (k : Int) < (y.moves.length : Int) := by omega
    have HMA := Lib.hid hma
    rw [hma] at *
    clear hmv hmcs hz HST hG
    go_wp2_with fail
    refine HR.out.mono ?_
    rintro e w4 ⟨xa, xc, za, zc, rfl, ho4, hb4⟩
    have F4 := HF.out.rows (A := ⟨xa, xc, za, zc⟩) hb4 ho4
    have z4 := hb4.size
    have e2 : B < w4.heap.size := F4.fr.le 3 rfl
    have e5 : og < wr.heap.size := HF.out.fr.le 0 rfl
    obtain ⟨hcap1, hcap2⟩ := own_caps ho4.pits
    have HF4 := Lib.hid F4
    have HB := Lib.hid (F4.at 3 rfl)
    clear ho4 hb4 HR F4 HF hcm2 c0 c1 c2 c3 c4 c5 c6 c7 c8 s0 s1 s2
    by_cases hzc : z.code = 0
    case neg =>
      have hzc' : (z.code != 0) = true := by simpa using hzc
      have HT2 := Lib.hid (HGO.out.trans (if_neg hzc))
      clear hzc
      go_wp2
      refine bodyPost_ret (results_tmp3 rfl _ _ _) rfl ?_
      refine ⟨_, _, _, _, _, _, by rw [HT2.out]; rfl, ?_, (HF4.out.step (below_alloc1 _ _)).below⟩
      intro q' hq'
      rw [HT2.out] at hq'
      cases hq'
    have hzc' : (z.code != 0) = false := by simpa using hzc
    have HT2 := Lib.hid (HGO.out.trans (if_pos hzc))
    obtain ⟨g0, g1, g2, g3⟩ := HGN.out hzc
    clear hzc HGN HGO
    have s0 := HB.out.box 0 _ rfl
    have s1 := HB.out.box 1 _ rfl
    have s2 := HB.out.box 2 _ rfl
    have sf := HB.out.free
    obtain ⟨us2, hus2⟩ : ∃ u, u = us ++ (q.cells C.pa C.pc C.sa C.sc).toList := ⟨_, rfl⟩
    have hul2 : Hid (us2.length = (k + 1) * 3) := by unfold Hid; rw [hus2, List.length_append, hul.out]; simp [P.cells]; omega
    have HD6 : Hid (Frd w ((((w4.setCell ⟨B, 0, none⟩ (.slice xa z.pits.length xc)).setCell ⟨B, 1, none⟩ (.slice za z.stores.length zc)).setCell ⟨B, 2, none⟩ (.int .i64 z.player)).alloc (.cells #[.int .i64 z.move, .int .i64 z.gain, .bool z.again, .slice xa z.pits.length xc, .slice za z.stores.length zc, .int .i64 z.player] 107)) [⟨w4.heap.size, w4.heap.size + 1, Bx w4.heap.size (z.cells xa xc za zc).toList⟩, ⟨B, B + 1, Bx B [.slice xa z.pits.length xc, .slice za z.stores.length zc, .int .i64 z.player]⟩, ⟨wr.heap.size, w4.heap.size, RowsP wr.heap.size w4.heap.size ⟨z.pits, z.stores, z.player⟩ ⟨xa, xc, za, zc⟩⟩, ⟨og, og + 1, RowB og 27 3 (k + 1) oc us2⟩, ⟨gg, gg + 1, RowB gg 107 6 k gc vs⟩, ⟨w.heap.size, w.heap.size + 1, BoxP w.heap.size (y.cells GK).toList⟩]) := by
      have f1 := HF4.out.setI 3 rfl [.slice xa z.pits.length xc, .slice za z.stores.length zc, .int .i64 z.player] rfl (by simp) (Nat.le_of_lt d3)
      have f2 := (f1.pick (ms := [⟨B, B + 1, Bx B [.slice xa z.pits.length xc, .slice za z.stores.length zc, .int .i64 z.player]⟩, ⟨wr.heap.size, w4.heap.size, RowsP wr.heap.size w4.heap.size ⟨z.pits, z.stores, z.player⟩ ⟨xa, xc, za, zc⟩⟩, ⟨og, og + 1, RowB og 27 3 (k + 1) oc (us ++ (q.cells C.pa C.pc C.sa C.sc).toList)⟩, ⟨gg, gg + 1, RowB gg 107 6 k gc vs⟩, ⟨w.heap.size, w.heap.size + 1, BoxP w.heap.size (y.cells GK).toList⟩]) [0, 1, 2, 3, 6] (by decide) rfl).allocX #[.int .i64 z.move, .int .i64 z.gain, .bool z.again, .slice xa z.pits.length xc, .slice za z.stores.length zc, .int .i64 z.player] 107 (by simp)
      rw [size_sets] at f2
      rw [hus2]
      exact f2
    clear HF4 HB hus2
    go_upto_region 9 with fail
    clear s0 s1 s2 sf
    have zx : w4.heap.size + 1 ≤ ((((w4.setCell ⟨B, 0, none⟩ (.slice xa z.pits.length xc)).setCell ⟨B, 1, none⟩ (.slice za z.stores.length zc)).setCell ⟨B, 2, none⟩ (.int .i64 z.player)).alloc (.cells #[.int .i64 z.move, .int .i64 z.gain, .bool z.again, .slice xa z.pits.length xc, .slice za z.stores.length zc, .int .i64 z.player] 107)).heap.size := by simp
    generalize ((((w4.setCell ⟨B, 0, none⟩ (.slice xa z.pits.length xc)).setCell ⟨B, 1, none⟩ (.slice za z.stores.length zc)).setCell ⟨B, 2, none⟩ (.int .i64 z.player)).alloc (.cells #[.int .i64 z.move, .int .i64 z.gain, .bool z.again, .slice xa z.pits.length xc, .slice za z.stores.length zc, .int .i64 z.player] 107)) = wx at HD6 zx ⊢
    have HSK : Hid (∀ W, Bx B [.slice xa z.pits.length xc, .slice za z.stores.length zc, .int .i64 z.player] W → Bx w4.heap.size (z.cells xa xc za zc).toList W → (W.cell? ⟨B, 0, none⟩ = some (.slice xa z.pits.length xc) ∧ W.cell? ⟨B, 1, none⟩ = some (.slice za z.stores.length zc) ∧ W.cell? ⟨B, 2, none⟩ = some (.int .i64 z.player) ∧ W.cell? ⟨w4.heap.size, 0, none⟩ = some (.int .i64 z.move) ∧ W.cell? ⟨w4.heap.size, 1, none⟩ = some (.int .i64 z.gain) ∧ W.cell? ⟨w4.heap.size, 2, none⟩ = some (.bool z.again) ∧ W.cell? ⟨w4.heap.size, 3, none⟩ = some (.slice xa z.pits.length xc) ∧ W.cell? ⟨w4.heap.size, 4, none⟩ = some (.slice za z.stores.length zc) ∧ W.cell? ⟨w4.heap.size, 5, none⟩ = some (.int .i64 z.player))) := fun W h1 h2 => ⟨h1.box 0 _ rfl, h1.box 1 _ rfl, h1.box 2 _ rfl, h2.box 0 _ rfl, h2.box 1 _ rfl, h2.box 2 _ rfl, h2.box 3 _ rfl, h2.box 4 _ rfl, h2.box 5 _ rfl⟩
    have HF := Lib.hid HD6.out.drew
    clear HD6
    refine heldH (S := fun W => W.cell? ⟨B, 0, none⟩ = some (.slice xa z.pits.length xc) ∧ W.cell? ⟨B, 1, none⟩ = some (.slice za z.stores.length zc) ∧ W.cell? ⟨B, 2, none⟩ = some (.int .i64 z.player) ∧ W.cell? ⟨w4.heap.size, 0, none⟩ = some (.int .i64 z.move) ∧ W.cell? ⟨w4.heap.size, 1, none⟩ = some (.int .i64 z.gain) ∧ W.cell? ⟨w4.heap.size, 2, none⟩ = some (.bool z.again) ∧ W.cell? ⟨w4.heap.size, 3, none⟩ = some (.slice xa z.pits.length xc) ∧ W.cell? ⟨w4.heap.size, 4, none⟩ = some (.slice za z.stores.length zc) ∧ W.cell? ⟨w4.heap.size, 5, none⟩ = some (.int .i64 z.player)) (n := 11) (listed := #[false, false, false, false, false, false, false, false, false, false, false]) (by kernel_rfl) (by rfl) (by rfl) ?_ (fun hHeld => ?_)
    (focus ((try dsimp only); (first | done | ((exact HSK.out _ (HF.out.get (r := ⟨B, B + 1, Bx B [.slice xa z.pits.length xc, .slice za z.stores.length zc, .int .i64 z.player]⟩) (by (repeat (first | exact List.mem_cons_self | apply List.mem_cons_of_mem)))) (HF.out.get (r := ⟨w4.heap.size, w4.heap.size + 1, Bx w4.heap.size (z.cells xa xc za zc).toList⟩) (by (repeat (first | exact List.mem_cons_self | apply List.mem_cons_of_mem))))); done))))
    (generalize hwa : wx.drew = WC at HF hHeld ⊢); (have zx2 : wx.heap.size ≤ WC.heap.size := by rw [← hwa]; exact Nat.le_refl _); clear hwa
    (refine takeH (i := 0) (v := ?_) (by decide +kernel) (by decide +kernel) (by kernel_rfl) (by rfl) (by exact fun _ _ _ h => h) (by rfl) ?_ (by assumption) ?_); rotate_left; (focus (intro w hSw; (try dsimp only at hSw); go_simp; (try with_reducible rfl); done)); (try simp only [Act.put, List.setIfInBounds_toArray, List.set_cons_zero, List.set_cons_succ])
    (refine takeH (i := 1) (v := ?_) (by decide +kernel) (by decide +kernel) (by kernel_rfl) (by rfl) (by exact fun _ _ _ h => h) (by rfl) ?_ (by assumption) ?_); rotate_left; (focus (intro w hSw; (try dsimp only at hSw); go_simp; (try with_reducible rfl); done)); (try simp only [Act.put, List.setIfInBounds_toArray, List.set_cons_zero, List.set_cons_succ])
    (refine takeH (i := 5) (v := ?_) (by decide +kernel) (by decide +kernel) (by kernel_rfl) (by rfl) (by exact fun _ _ _ h => h) (by rfl) ?_ (by assumption) ?_); rotate_left; (focus (intro w hSw; (try dsimp only at hSw); go_simp; (try with_reducible rfl); done)); (try simp only [Act.put, List.setIfInBounds_toArray, List.set_cons_zero, List.set_cons_succ])
    (refine takeH (i := 6) (v := ?_) (by decide +kernel) (by decide +kernel) (by kernel_rfl) (by rfl) (by exact fun _ _ _ h => h) (by rfl) ?_ (by assumption) ?_); rotate_left; (focus (intro w hSw; (try dsimp only at hSw); go_simp; (try with_reducible rfl); done)); (try simp only [Act.put, List.setIfInBounds_toArray, List.set_cons_zero, List.set_cons_succ])
    refine bothH (i := 2) (j := 7) (by decide +kernel) (by rfl) (by rfl) (by rfl) (by rfl) (fun K hK => ?_) (fun K hK => ?_)
    (go_simp; go_at_call 85; (refine (copied_c ⟨z.pits, z.stores, z.player⟩ xa za xc zc _ (HF.out.get (r := ⟨wr.heap.size, w4.heap.size, RowsP wr.heap.size w4.heap.size ⟨z.pits, z.stores, z.player⟩ ⟨xa, xc, za, zc⟩⟩) (by (repeat (first | exact List.mem_cons_self | apply List.mem_cons_of_mem)))).1 g2 g3).mono ?_); (rintro e WC ⟨ya, yc, ba, bc, rfl, ho5, hb5⟩); (have HFM := HF.out.rows (A := ⟨ya, yc, ba, bc⟩) hb5 ho5); (have zM := hb5.size); (obtain ⟨cl2, ch2, hcl, hch, HFM⟩ : ∃ cl ch, cl = _ ∧ ch = WC.heap.size ∧ Frd w WC (⟨cl, ch, RowsP cl ch ⟨z.pits, z.stores, z.player⟩ ⟨ya, yc, ba, bc⟩⟩ :: _) := ⟨_, _, rfl, rfl, HFM⟩); (have zcl := Nat.le_of_eq hcl); (have zcl' := Nat.le_of_eq hcl.symm); (have zch := Nat.le_of_eq hch); clear hcl hch; (have HF := Lib.hid HFM); clear HFM ho5 hb5)
    refine hK.out _ _ ?_ (fun hHeld' => ?_)
    (focus ((try dsimp only); (first | done | ((exact HSK.out _ (HF.out.get (r := ⟨B, B + 1, Bx B [.slice xa z.pits.length xc, .slice za z.stores.length zc, .int .i64 z.player]⟩) (by (repeat (first | exact List.mem_cons_self | apply List.mem_cons_of_mem)))) (HF.out.get (r := ⟨w4.heap.size, w4.heap.size + 1, Bx w4.heap.size (z.cells xa xc za zc).toList⟩) (by (repeat (first | exact List.mem_cons_self | apply List.mem_cons_of_mem))))); done))))
    clear hK K hHeld
    have hHeld := hHeld'
    clear hHeld'
    (try simp only [Act.put, List.setIfInBounds_toArray, List.set_cons_zero, List.set_cons_succ])
    refine bothH (i := 3) (j := 7) (by decide +kernel) (by rfl) (by rfl) (by rfl) (by rfl) (fun K hK => ?_) (fun K hK => ?_)
    (go_simp; refine gen_allocR HF.out #[.slice ya z.pits.length yc, .slice ba z.stores.length bc, .int .i64 z.player] 27 3 1 (by decide) rfl ?_; intro WC zM HFM; (have HF := Lib.hid HFM); clear HFM)
    refine hK.out _ _ ?_ (fun hHeld' => ?_)
    (focus ((try dsimp only); (first | done | ((exact HSK.out _ (HF.out.get (r := ⟨B, B + 1, Bx B [.slice xa z.pits.length xc, .slice za z.stores.length zc, .int .i64 z.player]⟩) (by (repeat (first | exact List.mem_cons_self | apply List.mem_cons_of_mem)))) (HF.out.get (r := ⟨w4.heap.size, w4.heap.size + 1, Bx w4.heap.size (z.cells xa xc za zc).toList⟩) (by (repeat (first | exact List.mem_cons_self | apply List.mem_cons_of_mem))))); done))))
    clear hK K hHeld
    have hHeld := hHeld'
    clear hHeld'
    (try simp only [Act.put, List.setIfInBounds_toArray, List.set_cons_zero, List.set_cons_succ])
    refine bothH (i := 4) (j := 7) (by decide +kernel) (by rfl) (by rfl) (by rfl) (by rfl) (fun K hK => ?_) (fun K hK => ?_)
    (refine wp_append_frd HF.out _ _ 128 rfl 27 i3 _ 3 56 Try.underlying128 j3 z30 z31 z32 rfl (by decide) (us := #[.slice ya z.pits.length yc, .slice ba z.stores.length bc, .int .i64 z.player].toList) (vs := us2) rfl rfl (by first | exact idx0 | exact idx1 | exact idx2 | exact idx3 | exact idx4 | exact idx5 | exact idx6 | exact idx7 | exact idx8) (by first | exact idx0 | exact idx1 | exact idx2 | exact idx3 | exact idx4 | exact idx5 | exact idx6 | exact idx7 | exact idx8) (by intro u hu; simp at hu; rcases hu with rfl | rfl | rfl <;> rfl) (by unfold maxLen; omega) (by omega) (Nat.le_of_lt d1) ?_; intro og' oc' WC zM zO HFM; (have HF := Lib.hid HFM); clear HFM)
    refine hK.out _ _ ?_ (fun hHeld' => ?_)
    (focus ((try dsimp only); (first | done | ((exact HSK.out _ (HF.out.get (r := ⟨B, B + 1, Bx B [.slice xa z.pits.length xc, .slice za z.stores.length zc, .int .i64 z.player]⟩) (by (repeat (first | exact List.mem_cons_self | apply List.mem_cons_of_mem)))) (HF.out.get (r := ⟨w4.heap.size, w4.heap.size + 1, Bx w4.heap.size (z.cells xa xc za zc).toList⟩) (by (repeat (first | exact List.mem_cons_self | apply List.mem_cons_of_mem))))); done))))
    clear hK K hHeld
    have hHeld := hHeld'
    clear hHeld'
    (try simp only [Act.put, List.setIfInBounds_toArray, List.set_cons_zero, List.set_cons_succ])
    refine nextH (i := 7) (by decide +kernel) (by rfl) (by rfl) (fun K hK => ?_)
    (go_simp; refine gen_allocR HF.out #[.int .i64 z.move, .int .i64 z.gain, .bool z.again, .slice xa z.pits.length xc, .slice za z.stores.length zc, .int .i64 z.player] 107 6 1 (by decide) rfl ?_; intro WC zM HFM; (have HF := Lib.hid HFM); clear HFM)
    refine hK.out _ _ ?_ (fun hHeld' => ?_)
    (focus ((try dsimp only); (first | done | ((exact HSK.out _ (HF.out.get (r := ⟨B, B + 1, Bx B [.slice xa z.pits.length xc, .slice za z.stores.length zc, .int .i64 z.player]⟩) (by (repeat (first | exact List.mem_cons_self | apply List.mem_cons_of_mem)))) (HF.out.get (r := ⟨w4.heap.size, w4.heap.size + 1, Bx w4.heap.size (z.cells xa xc za zc).toList⟩) (by (repeat (first | exact List.mem_cons_self | apply List.mem_cons_of_mem))))); done))))
    clear hK K hHeld
    have hHeld := hHeld'
    clear hHeld'
    (try simp only [Act.put, List.setIfInBounds_toArray, List.set_cons_zero, List.set_cons_succ])
    refine nextH (i := 8) (by decide +kernel) (by rfl) (by rfl) (fun K hK => ?_)
    (refine wp_append_frd HF.out _ _ 99 rfl 107 i6 _ 6 80 Try.underlying99 j6 z60 z61 z62 rfl (by decide) (us := #[.int .i64 z.move, .int .i64 z.gain, .bool z.again, .slice xa z.pits.length xc, .slice za z.stores.length zc, .int .i64 z.player].toList) (vs := vs) rfl rfl (by first | exact idx0 | exact idx1 | exact idx2 | exact idx3 | exact idx4 | exact idx5 | exact idx6 | exact idx7 | exact idx8) (by first | exact idx0 | exact idx1 | exact idx2 | exact idx3 | exact idx4 | exact idx5 | exact idx6 | exact idx7 | exact idx8) (by intro u hu; simp at hu; rcases hu with rfl | rfl | rfl | rfl | rfl | rfl <;> rfl) (by unfold maxLen; omega) (by omega) (Nat.le_of_lt d2) ?_; intro gg' gc' WC zM zG HFM; (have HF := Lib.hid HFM); clear HFM)
    refine hK.out _ _ ?_ (fun hHeld' => ?_)
    (focus ((try dsimp only); (first | done | ((exact HSK.out _ (HF.out.get (r := ⟨B, B + 1, Bx B [.slice xa z.pits.length xc, .slice za z.stores.length zc, .int .i64 z.player]⟩) (by (repeat (first | exact List.mem_cons_self | apply List.mem_cons_of_mem)))) (HF.out.get (r := ⟨w4.heap.size, w4.heap.size + 1, Bx w4.heap.size (z.cells xa xc za zc).toList⟩) (by (repeat (first | exact List.mem_cons_self | apply List.mem_cons_of_mem))))); done))))
    clear hK K hHeld
    have hHeld := hHeld'
    clear hHeld'
    (try simp only [Act.put, List.setIfInBounds_toArray, List.set_cons_zero, List.set_cons_succ])
    (refine takeH (i := 9) (v := ?_) (by decide +kernel) (by decide +kernel) (by kernel_rfl) (by rfl) (by exact fun _ _ _ h => h) (by rfl) ?_ (by assumption) ?_); rotate_left; (focus (intro w hSw; (try dsimp only at hSw); go_simp; (try with_reducible rfl); done)); (try simp only [Act.put, List.setIfInBounds_toArray, List.set_cons_zero, List.set_cons_succ])
    (refine takeH (i := 10) (v := ?_) (by decide +kernel) (by decide +kernel) (by kernel_rfl) (by rfl) (by exact fun _ _ _ h => h) (by rfl) ?_ (by assumption) ?_); rotate_left; (focus (intro w hSw; (try dsimp only at hSw); go_simp; (try with_reducible rfl); done)); (try simp only [Act.put, List.setIfInBounds_toArray, List.set_cons_zero, List.set_cons_succ])
    refine wpAnyH_done (by decide +kernel) ?_ _
    rotate_left
    (go_simp; refine gen_allocR HF.out #[.int .i64 z.move, .int .i64 z.gain, .bool z.again, .slice xa z.pits.length xc, .slice za z.stores.length zc, .int .i64 z.player] 107 6 1 (by decide) rfl ?_; intro WC zM HFM; (have HF := Lib.hid HFM); clear HFM)
    refine hK.out _ _ ?_ (fun hHeld' => ?_)
    (focus ((try dsimp only); (first | done | ((exact HSK.out _ (HF.out.get (r := ⟨B, B + 1, Bx B [.slice xa z.pits.length xc, .slice za z.stores.length zc, .int .i64 z.player]⟩) (by (repeat (first | exact List.mem_cons_self | apply List.mem_cons_of_mem)))) (HF.out.get (r := ⟨w4.heap.size, w4.heap.size + 1, Bx w4.heap.size (z.cells xa xc za zc).toList⟩) (by (repeat (first | exact List.mem_cons_self | apply List.mem_cons_of_mem))))); done))))
    clear hK K hHeld
    have hHeld := hHeld'
    clear hHeld'
    (try simp only [Act.put, List.setIfInBounds_toArray, List.set_cons_zero, List.set_cons_succ])
    refine nextH (i := 4) (by decide +kernel) (by rfl) (by rfl) (fun K hK => ?_)
    (refine wp_append_frd HF.out _ _ 128 rfl 27 i3 _ 3 56 Try.underlying128 j3 z30 z31 z32 rfl (by decide) (us := #[.slice ya z.pits.length yc, .slice ba z.stores.length bc, .int .i64 z.player].toList) (vs := us2) rfl rfl (by first | exact idx0 | exact idx1 | exact idx2 | exact idx3 | exact idx4 | exact idx5 | exact idx6 | exact idx7 | exact idx8) (by first | exact idx0 | exact idx1 | exact idx2 | exact idx3 | exact idx4 | exact idx5 | exact idx6 | exact idx7 | exact idx8) (by intro u hu; simp at hu; rcases hu with rfl | rfl | rfl <;> rfl) (by unfold maxLen; omega) (by omega) (Nat.le_of_lt d1) ?_; intro og' oc' WC zM zO HFM; (have HF := Lib.hid HFM); clear HFM)
    refine hK.out _ _ ?_ (fun hHeld' => ?_)
    (focus ((try dsimp only); (first | done | ((exact HSK.out _ (HF.out.get (r := ⟨B, B + 1, Bx B [.slice xa z.pits.length xc, .slice za z.stores.length zc, .int .i64 z.player]⟩) (by (repeat (first | exact List.mem_cons_self | apply List.mem_cons_of_mem)))) (HF.out.get (r := ⟨w4.heap.size, w4.heap.size + 1, Bx w4.heap.size (z.cells xa xc za zc).toList⟩) (by (repeat (first | exact List.mem_cons_self | apply List.mem_cons_of_mem))))); done))))
    clear hK K hHeld
    have hHeld := hHeld'
    clear hHeld'
    (try simp only [Act.put, List.setIfInBounds_toArray, List.set_cons_zero, List.set_cons_succ])
    refine nextH (i := 8) (by decide +kernel) (by rfl) (by rfl) (fun K hK => ?_)
    (refine wp_append_frd HF.out _ _ 99 rfl 107 i6 _ 6 80 Try.underlying99 j6 z60 z61 z62 rfl (by decide) (us := #[.int .i64 z.move, .int .i64 z.gain, .bool z.again, .slice xa z.pits.length xc, .slice za z.stores.length zc, .int .i64 z.player].toList) (vs := vs) rfl rfl (by first | exact idx0 | exact idx1 | exact idx2 | exact idx3 | exact idx4 | exact idx5 | exact idx6 | exact idx7 | exact idx8) (by first | exact idx0 | exact idx1 | exact idx2 | exact idx3 | exact idx4 | exact idx5 | exact idx6 | exact idx7 | exact idx8) (by intro u hu; simp at hu; rcases hu with rfl | rfl | rfl | rfl | rfl | rfl <;> rfl) (by unfold maxLen; omega) (by omega) (Nat.le_of_lt d2) ?_; intro gg' gc' WC zM zG HFM; (have HF := Lib.hid HFM); clear HFM)
    refine hK.out _ _ ?_ (fun hHeld' => ?_)
    (focus ((try dsimp only); (first | done | ((exact HSK.out _ (HF.out.get (r := ⟨B, B + 1, Bx B [.slice xa z.pits.length xc, .slice za z.stores.length zc, .int .i64 z.player]⟩) (by (repeat (first | exact List.mem_cons_self | apply List.mem_cons_of_mem)))) (HF.out.get (r := ⟨w4.heap.size, w4.heap.size + 1, Bx w4.heap.size (z.cells xa xc za zc).toList⟩) (by (repeat (first | exact List.mem_cons_self | apply List.mem_cons_of_mem))))); done))))
    clear hK K hHeld
    have hHeld := hHeld'
    clear hHeld'
    (try simp only [Act.put, List.setIfInBounds_toArray, List.set_cons_zero, List.set_cons_succ])
    (refine takeH (i := 9) (v := ?_) (by decide +kernel) (by decide +kernel) (by kernel_rfl) (by rfl) (by exact fun _ _ _ h => h) (by rfl) ?_ (by assumption) ?_); rotate_left; (focus (intro w hSw; (try dsimp only at hSw); go_simp; (try with_reducible rfl); done)); (try simp only [Act.put, List.setIfInBounds_toArray, List.set_cons_zero, List.set_cons_succ])
    (refine takeH (i := 10) (v := ?_) (by decide +kernel) (by decide +kernel) (by kernel_rfl) (by rfl) (by exact fun _ _ _ h => h) (by rfl) ?_ (by assumption) ?_); rotate_left; (focus (intro w hSw; (try dsimp only at hSw); go_simp; (try with_reducible rfl); done)); (try simp only [Act.put, List.setIfInBounds_toArray, List.set_cons_zero, List.set_cons_succ])
    refine wpAnyH_done (by decide +kernel) ?_ _
    rotate_left
    (go_simp; refine gen_allocR HF.out #[.int .i64 z.move, .int .i64 z.gain, .bool z.again, .slice xa z.pits.length xc, .slice za z.stores.length zc, .int .i64 z.player] 107 6 1 (by decide) rfl ?_; intro WC zM HFM; (have HF := Lib.hid HFM); clear HFM)
    refine hK.out _ _ ?_ (fun hHeld' => ?_)
    (focus ((try dsimp only); (first | done | ((exact HSK.out _ (HF.out.get (r := ⟨B, B + 1, Bx B [.slice xa z.pits.length xc, .slice za z.stores.length zc, .int .i64 z.player]⟩) (by (repeat (first | exact List.mem_cons_self | apply List.mem_cons_of_mem)))) (HF.out.get (r := ⟨w4.heap.size, w4.heap.size + 1, Bx w4.heap.size (z.cells xa xc za zc).toList⟩) (by (repeat (first | exact List.mem_cons_self | apply List.mem_cons_of_mem))))); done))))
    clear hK K hHeld
    have hHeld := hHeld'
    clear hHeld'
    (try simp only [Act.put, List.setIfInBounds_toArray, List.set_cons_zero, List.set_cons_succ])
    refine nextH (i := 3) (by decide +kernel) (by rfl) (by rfl) (fun K hK => ?_)
    (go_simp; refine gen_allocR HF.out #[.slice ya z.pits.length yc, .slice ba z.stores.length bc, .int .i64 z.player] 27 3 1 (by decide) rfl ?_; intro WC zM HFM; (have HF := Lib.hid HFM); clear HFM)
    refine hK.out _ _ ?_ (fun hHeld' => ?_)
    (focus ((try dsimp only); (first | done | ((exact HSK.out _ (HF.out.get (r := ⟨B, B + 1, Bx B [.slice xa z.pits.length xc, .slice za z.stores.length zc, .int .i64 z.player]⟩) (by (repeat (first | exact List.mem_cons_self | apply List.mem_cons_of_mem)))) (HF.out.get (r := ⟨w4.heap.size, w4.heap.size + 1, Bx w4.heap.size (z.cells xa xc za zc).toList⟩) (by (repeat (first | exact List.mem_cons_self | apply List.mem_cons_of_mem))))); done))))
    clear hK K hHeld
    have hHeld := hHeld'
    clear hHeld'
    (try simp only [Act.put, List.setIfInBounds_toArray, List.set_cons_zero, List.set_cons_succ])
    refine nextH (i := 4) (by decide +kernel) (by rfl) (by rfl) (fun K hK => ?_)
    (refine wp_append_frd HF.out _ _ 128 rfl 27 i3 _ 3 56 Try.underlying128 j3 z30 z31 z32 rfl (by decide) (us := #[.slice ya z.pits.length yc, .slice ba z.stores.length bc, .int .i64 z.player].toList) (vs := us2) rfl rfl (by first | exact idx0 | exact idx1 | exact idx2 | exact idx3 | exact idx4 | exact idx5 | exact idx6 | exact idx7 | exact idx8) (by first | exact idx0 | exact idx1 | exact idx2 | exact idx3 | exact idx4 | exact idx5 | exact idx6 | exact idx7 | exact idx8) (by intro u hu; simp at hu; rcases hu with rfl | rfl | rfl <;> rfl) (by unfold maxLen; omega) (by omega) (Nat.le_of_lt d1) ?_; intro og' oc' WC zM zO HFM; (have HF := Lib.hid HFM); clear HFM)
    refine hK.out _ _ ?_ (fun hHeld' => ?_)
    (focus ((try dsimp only); (first | done | ((exact HSK.out _ (HF.out.get (r := ⟨B, B + 1, Bx B [.slice xa z.pits.length xc, .slice za z.stores.length zc, .int .i64 z.player]⟩) (by (repeat (first | exact List.mem_cons_self | apply List.mem_cons_of_mem)))) (HF.out.get (r := ⟨w4.heap.size, w4.heap.size + 1, Bx w4.heap.size (z.cells xa xc za zc).toList⟩) (by (repeat (first | exact List.mem_cons_self | apply List.mem_cons_of_mem))))); done))))
    clear hK K hHeld
    have hHeld := hHeld'
    clear hHeld'
    (try simp only [Act.put, List.setIfInBounds_toArray, List.set_cons_zero, List.set_cons_succ])
    refine nextH (i := 8) (by decide +kernel) (by rfl) (by rfl) (fun K hK => ?_)
    (refine wp_append_frd HF.out _ _ 99 rfl 107 i6 _ 6 80 Try.underlying99 j6 z60 z61 z62 rfl (by decide) (us := #[.int .i64 z.move, .int .i64 z.gain, .bool z.again, .slice xa z.pits.length xc, .slice za z.stores.length zc, .int .i64 z.player].toList) (vs := vs) rfl rfl (by first | exact idx0 | exact idx1 | exact idx2 | exact idx3 | exact idx4 | exact idx5 | exact idx6 | exact idx7 | exact idx8) (by first | exact idx0 | exact idx1 | exact idx2 | exact idx3 | exact idx4 | exact idx5 | exact idx6 | exact idx7 | exact idx8) (by intro u hu; simp at hu; rcases hu with rfl | rfl | rfl | rfl | rfl | rfl <;> rfl) (by unfold maxLen; omega) (by omega) (Nat.le_of_lt d2) ?_; intro gg' gc' WC zM zG HFM; (have HF := Lib.hid HFM); clear HFM)
    refine hK.out _ _ ?_ (fun hHeld' => ?_)
    (focus ((try dsimp only); (first | done | ((exact HSK.out _ (HF.out.get (r := ⟨B, B + 1, Bx B [.slice xa z.pits.length xc, .slice za z.stores.length zc, .int .i64 z.player]⟩) (by (repeat (first | exact List.mem_cons_self | apply List.mem_cons_of_mem)))) (HF.out.get (r := ⟨w4.heap.size, w4.heap.size + 1, Bx w4.heap.size (z.cells xa xc za zc).toList⟩) (by (repeat (first | exact List.mem_cons_self | apply List.mem_cons_of_mem))))); done))))
    clear hK K hHeld
    have hHeld := hHeld'
    clear hHeld'
    (try simp only [Act.put, List.setIfInBounds_toArray, List.set_cons_zero, List.set_cons_succ])
    (refine takeH (i := 9) (v := ?_) (by decide +kernel) (by decide +kernel) (by kernel_rfl) (by rfl) (by exact fun _ _ _ h => h) (by rfl) ?_ (by assumption) ?_); rotate_left; (focus (intro w hSw; (try dsimp only at hSw); go_simp; (try with_reducible rfl); done)); (try simp only [Act.put, List.setIfInBounds_toArray, List.set_cons_zero, List.set_cons_succ])
    (refine takeH (i := 10) (v := ?_) (by decide +kernel) (by decide +kernel) (by kernel_rfl) (by rfl) (by exact fun _ _ _ h => h) (by rfl) ?_ (by assumption) ?_); rotate_left; (focus (intro w hSw; (try dsimp only at hSw); go_simp; (try with_reducible rfl); done)); (try simp only [Act.put, List.setIfInBounds_toArray, List.set_cons_zero, List.set_cons_succ])
    refine wpAnyH_done (by decide +kernel) ?_ _
    rotate_left
    (go_simp; refine gen_allocR HF.out #[.int .i64 z.move, .int .i64 z.gain, .bool z.again, .slice xa z.pits.length xc, .slice za z.stores.length zc, .int .i64 z.player] 107 6 1 (by decide) rfl ?_; intro WC zM HFM; (have HF := Lib.hid HFM); clear HFM)
    refine hK.out _ _ ?_ (fun hHeld' => ?_)
    (focus ((try dsimp only); (first | done | ((exact HSK.out _ (HF.out.get (r := ⟨B, B + 1, Bx B [.slice xa z.pits.length xc, .slice za z.stores.length zc, .int .i64 z.player]⟩) (by (repeat (first | exact List.mem_cons_self | apply List.mem_cons_of_mem)))) (HF.out.get (r := ⟨w4.heap.size, w4.heap.size + 1, Bx w4.heap.size (z.cells xa xc za zc).toList⟩) (by (repeat (first | exact List.mem_cons_self | apply List.mem_cons_of_mem))))); done))))
    clear hK K hHeld
    have hHeld := hHeld'
    clear hHeld'
    (try simp only [Act.put, List.setIfInBounds_toArray, List.set_cons_zero, List.set_cons_succ])
    refine nextH (i := 2) (by decide +kernel) (by rfl) (by rfl) (fun K hK => ?_)
    (go_simp; go_at_call 85; (refine (copied_c ⟨z.pits, z.stores, z.player⟩ xa za xc zc _ (HF.out.get (r := ⟨wr.heap.size, w4.heap.size, RowsP wr.heap.size w4.heap.size ⟨z.pits, z.stores, z.player⟩ ⟨xa, xc, za, zc⟩⟩) (by (repeat (first | exact List.mem_cons_self | apply List.mem_cons_of_mem)))).1 g2 g3).mono ?_); (rintro e WC ⟨ya, yc, ba, bc, rfl, ho5, hb5⟩); (have HFM := HF.out.rows (A := ⟨ya, yc, ba, bc⟩) hb5 ho5); (have zM := hb5.size); (obtain ⟨cl2, ch2, hcl, hch, HFM⟩ : ∃ cl ch, cl = _ ∧ ch = WC.heap.size ∧ Frd w WC (⟨cl, ch, RowsP cl ch ⟨z.pits, z.stores, z.player⟩ ⟨ya, yc, ba, bc⟩⟩ :: _) := ⟨_, _, rfl, rfl, HFM⟩); (have zcl := Nat.le_of_eq hcl); (have zcl' := Nat.le_of_eq hcl.symm); (have zch := Nat.le_of_eq hch); clear hcl hch; (have HF := Lib.hid HFM); clear HFM ho5 hb5)
    refine hK.out _ _ ?_ (fun hHeld' => ?_)
    (focus ((try dsimp only); (first | done | ((exact HSK.out _ (HF.out.get (r := ⟨B, B + 1, Bx B [.slice xa z.pits.length xc, .slice za z.stores.length zc, .int .i64 z.player]⟩) (by (repeat (first | exact List.mem_cons_self | apply List.mem_cons_of_mem)))) (HF.out.get (r := ⟨w4.heap.size, w4.heap.size + 1, Bx w4.heap.size (z.cells xa xc za zc).toList⟩) (by (repeat (first | exact List.mem_cons_self | apply List.mem_cons_of_mem))))); done))))
    clear hK K hHeld
    have hHeld := hHeld'
    clear hHeld'
    (try simp only [Act.put, List.setIfInBounds_toArray, List.set_cons_zero, List.set_cons_succ])
    refine nextH (i := 3) (by decide +kernel) (by rfl) (by rfl) (fun K hK => ?_)
    (go_simp; refine gen_allocR HF.out #[.slice ya z.pits.length yc, .slice ba z.stores.length bc, .int .i64 z.player] 27 3 1 (by decide) rfl ?_; intro WC zM HFM; (have HF := Lib.hid HFM); clear HFM)
    refine hK.out _ _ ?_ (fun hHeld' => ?_)
    (focus ((try dsimp only); (first | done | ((exact HSK.out _ (HF.out.get (r := ⟨B, B + 1, Bx B [.slice xa z.pits.length xc, .slice za z.stores.length zc, .int .i64 z.player]⟩) (by (repeat (first | exact List.mem_cons_self | apply List.mem_cons_of_mem)))) (HF.out.get (r := ⟨w4.heap.size, w4.heap.size + 1, Bx w4.heap.size (z.cells xa xc za zc).toList⟩) (by (repeat (first | exact List.mem_cons_self | apply List.mem_cons_of_mem))))); done))))
    clear hK K hHeld
    have hHeld := hHeld'
    clear hHeld'
    (try simp only [Act.put, List.setIfInBounds_toArray, List.set_cons_zero, List.set_cons_succ])
    refine nextH (i := 4) (by decide +kernel) (by rfl) (by rfl) (fun K hK => ?_)
    (refine wp_append_frd HF.out _ _ 128 rfl 27 i3 _ 3 56 Try.underlying128 j3 z30 z31 z32 rfl (by decide) (us := #[.slice ya z.pits.length yc, .slice ba z.stores.length bc, .int .i64 z.player].toList) (vs := us2) rfl rfl (by first | exact idx0 | exact idx1 | exact idx2 | exact idx3 | exact idx4 | exact idx5 | exact idx6 | exact idx7 | exact idx8) (by first | exact idx0 | exact idx1 | exact idx2 | exact idx3 | exact idx4 | exact idx5 | exact idx6 | exact idx7 | exact idx8) (by intro u hu; simp at hu; rcases hu with rfl | rfl | rfl <;> rfl) (by unfold maxLen; omega) (by omega) (Nat.le_of_lt d1) ?_; intro og' oc' WC zM zO HFM; (have HF := Lib.hid HFM); clear HFM)
    refine hK.out _ _ ?_ (fun hHeld' => ?_)
    (focus ((try dsimp only); (first | done | ((exact HSK.out _ (HF.out.get (r := ⟨B, B + 1, Bx B [.slice xa z.pits.length xc, .slice za z.stores.length zc, .int .i64 z.player]⟩) (by (repeat (first | exact List.mem_cons_self | apply List.mem_cons_of_mem)))) (HF.out.get (r := ⟨w4.heap.size, w4.heap.size + 1, Bx w4.heap.size (z.cells xa xc za zc).toList⟩) (by (repeat (first | exact List.mem_cons_self | apply List.mem_cons_of_mem))))); done))))
    clear hK K hHeld
    have hHeld := hHeld'
    clear hHeld'
    (try simp only [Act.put, List.setIfInBounds_toArray, List.set_cons_zero, List.set_cons_succ])
    refine nextH (i := 8) (by decide +kernel) (by rfl) (by rfl) (fun K hK => ?_)
    (refine wp_append_frd HF.out _ _ 99 rfl 107 i6 _ 6 80 Try.underlying99 j6 z60 z61 z62 rfl (by decide) (us := #[.int .i64 z.move, .int .i64 z.gain, .bool z.again, .slice xa z.pits.length xc, .slice za z.stores.length zc, .int .i64 z.player].toList) (vs := vs) rfl rfl (by first | exact idx0 | exact idx1 | exact idx2 | exact idx3 | exact idx4 | exact idx5 | exact idx6 | exact idx7 | exact idx8) (by first | exact idx0 | exact idx1 | exact idx2 | exact idx3 | exact idx4 | exact idx5 | exact idx6 | exact idx7 | exact idx8) (by intro u hu; simp at hu; rcases hu with rfl | rfl | rfl | rfl | rfl | rfl <;> rfl) (by unfold maxLen; omega) (by omega) (Nat.le_of_lt d2) ?_; intro gg' gc' WC zM zG HFM; (have HF := Lib.hid HFM); clear HFM)
    refine hK.out _ _ ?_ (fun hHeld' => ?_)
    (focus ((try dsimp only); (first | done | ((exact HSK.out _ (HF.out.get (r := ⟨B, B + 1, Bx B [.slice xa z.pits.length xc, .slice za z.stores.length zc, .int .i64 z.player]⟩) (by (repeat (first | exact List.mem_cons_self | apply List.mem_cons_of_mem)))) (HF.out.get (r := ⟨w4.heap.size, w4.heap.size + 1, Bx w4.heap.size (z.cells xa xc za zc).toList⟩) (by (repeat (first | exact List.mem_cons_self | apply List.mem_cons_of_mem))))); done))))
    clear hK K hHeld
    have hHeld := hHeld'
    clear hHeld'
    (try simp only [Act.put, List.setIfInBounds_toArray, List.set_cons_zero, List.set_cons_succ])
    (refine takeH (i := 9) (v := ?_) (by decide +kernel) (by decide +kernel) (by kernel_rfl) (by rfl) (by exact fun _ _ _ h => h) (by rfl) ?_ (by assumption) ?_); rotate_left; (focus (intro w hSw; (try dsimp only at hSw); go_simp; (try with_reducible rfl); done)); (try simp only [Act.put, List.setIfInBounds_toArray, List.set_cons_zero, List.set_cons_succ])
    (refine takeH (i := 10) (v := ?_) (by decide +kernel) (by decide +kernel) (by kernel_rfl) (by rfl) (by exact fun _ _ _ h => h) (by rfl) ?_ (by assumption) ?_); rotate_left; (focus (intro w hSw; (try dsimp only at hSw); go_simp; (try with_reducible rfl); done)); (try simp only [Act.put, List.setIfInBounds_toArray, List.set_cons_zero, List.set_cons_succ])
    refine wpAnyH_done (by decide +kernel) ?_ _
    all_goals (
      have hfin : PdSt w WC y (y.cells GK).toList t (k + 1) ⟨z.pits, z.stores, z.player⟩ ⟨xa, xc, za, zc⟩ ⟨ya, yc, ba, bc⟩ og' oc' gg' gc' B wr.heap.size w4.heap.size cl2 ch2 us2 (vs ++ [.int .i64 z.move, .int .i64 z.gain, .bool z.again, .slice xa z.pits.length xc, .slice za z.stores.length zc, .int .i64 z.player]) :=
        { kl := by omega, go := HT2.out.symm, fr := by first | exact HF.out.pick [1, 0, 6, 7, 4, 8] (by decide) rfl | exact HF.out.pick [2, 0, 6, 7, 4, 8] (by decide) rfl | exact HF.out.pick [1, 0, 6, 7, 3, 8] (by decide) rfl, dis := by omega, ul := hul2.out, m1 := g2, m2 := g3, hc := hcap1, hcm := hcap2 }
      have HFIN := Lib.hid hfin
      clear hfin HF hHeld HSK
      go_wp2
      go_roundw
      (case rel => exact ⟨_, _, _, _, _, _, _, _, _, ⟨k + 1, by go_num, ⟨z.pits, z.stores, z.player⟩, ⟨xa, xc, za, zc⟩, ⟨ya, yc, ba, bc⟩, og', oc', rfl, gg', gc', rfl, wr.heap.size, w4.heap.size, cl2, ch2, us2, _, HFIN.out⟩, rfl, rfl, rfl, rfl, rfl, rfl, rfl, rfl, rfl⟩)
      (case measure => (simp [intOf]; omega)))

end Go.Proofs.Yteabheocbkcmnaa
