/- SlimT: positions turned, viewed, their sides (printed by gen/slim.py out of other texts). Each contract holds for every argument, under the premises that it states. -/
import Derived.Test.YtenjffoboiohnaaDoorOwn
import Derived.Test.YtenjffoboiohnaaDoorPos2
import Derived.Test.YtenjffoboiohnaaDoorCapP
import Derived.Test.YtenjffoboiohnaaDoorNew
import Derived.Test.YtenjffoboiohnaaDoorCore1
import Derived.Test.YtenjffoboiohnaaDoorLap
import Derived.Test.YtenjffoboiohnaaDoorPosN
import Derived.Deep.AppendLies
import Derived.Deep.CutRange
namespace Go.Proofs.YtenjffoboiohnaaDoor
set_option linter.unusedSimpArgs false
set_option linter.unusedVariables false
set_option linter.unnecessarySimpa false
open Go.RowKit Go.ChangeShapes Go.WideShapes Go.ChangeAt Go.Joins

/-- the first cells of block b, none of them frozen -/
def BoxF (b : Nat) (cs : List Value) : World → Prop := fun w => BoxP b cs w ∧ ∀ o, w.frozen? ⟨b, o, none⟩ = false
theorem BoxF.stab (b : Nat) (cs : List Value) : Stab b (b + 1) (BoxF b cs) := fun w w' h hk => ⟨BoxP.stab b cs w w' h.1 hk, fun o => (World.frozen?_of_block (w := w) (hk b (Nat.le_refl _) (by omega))).trans (h.2 o)⟩
theorem Fr.allocF {w0 w : World} {ls : List Res} (h : Fr w0 w ls) (cs : Array Value) (t : TypeId) : Fr w0 (w.alloc (.cells cs t)) (⟨w.heap.size, w.heap.size + 1, BoxF w.heap.size cs.toList⟩ :: ls) :=
  (h.step (below_alloc1 _ _)).add _ _ _ (BoxF.stab _ _) ⟨fun j v hv => by simpa using hv, fun o => by simp⟩ (by simp)
theorem own_caps {w : World} {base size n c : Nat} {e : TypeId} {a : Option Addr} {vs : List Value} (h : w.ownsRow base e size (.slice a n c) n vs) : n ≤ c ∧ c ≤ maxLen := by
  obtain ⟨_, ⟨h1, h2⟩ | ⟨g, cap, cur, hv, hb, hg, hn, hm, _⟩⟩ := h
  · cases h1; simp
  · cases hv; exact ⟨hn, hm⟩
theorem slice_lo (a : Option Addr) (n m k c : Nat) (r : Int) (hr : (k : Int) = r) (hk : k < n) (hm : n - k = m) (hc : n ≤ c) (b o : Nat) (ha : a = some ⟨b, o, none⟩) (W : World) : (Instr.slice 26 (.slice a n c) (some (.int .i64 r)) none none).run Tryd.prog W = .ok (.slice (some ⟨b, o + k, none⟩) m (c - k)) W := by
  subst hr hm ha
  have h := run_slice_l (P := Tryd.prog) W 26 (some ⟨b, o, none⟩) n c (by kernel_rfl) .i64 (k : Int) (by omega) (by omega)
  have hz : (sizeOf (Tryd.prog.elem 26)).run Tryd.prog W = .ok 1 W := by kernel_rfl
  rw [h, hz]
  have hne : ¬ c - k = 0 := by omega
  have hne2 : ¬ c = k := by omega
  by_cases hk0 : k = 0 <;> simp [Result.andThen, sliced, Addr.add, hne, hne2, hk0] <;> omega
theorem slice_hi (a : Option Addr) (n m c : Nat) (r : Int) (hr : (m : Int) = r) (hk : m ≤ n) (hc : n ≤ c) (b o : Nat) (ha : a = some ⟨b, o, none⟩) (W : World) : (Instr.slice 26 (.slice a n c) none (some (.int .i64 r)) none).run Tryd.prog W = .ok (.slice (some ⟨b, o, none⟩) m c) W := by
  subst hr ha
  have h := run_slice_h (P := Tryd.prog) W 26 (some ⟨b, o, none⟩) n c (by kernel_rfl) .i64 (m : Int) (by omega) (by omega)
  have hz : (sizeOf (Tryd.prog.elem 26)).run Tryd.prog W = .ok 1 W := by kernel_rfl
  rw [h, hz]
  simp [Result.andThen, sliced, Addr.add]

theorem addr_add (b o j : Nat) : (⟨b, o, none⟩ : Addr).add j = ⟨b, o + j, none⟩ := by
  by_cases h : j = 0 <;> simp [Addr.add, h]
theorem getElem?_front {α : Type} {l m : List α} {j : Nat} {u : α} (h : l[j]? = some u) : (l ++ m)[j]? = some u := by
  obtain ⟨hj, rfl⟩ := List.getElem?_eq_some_iff.1 h
  rw [List.getElem?_append_left hj]; exact List.getElem?_eq_getElem hj

set_option maxRecDepth 100000 in
set_option maxHeartbeats 8000000 in
theorem turned_c (r : R) (zs xs ys : List Int) (s0 s1 pl : Int) (hz : zs = xs ++ ys) (hx : (xs.length : Int) = r.pits) (hy : ys.length = xs.length) (h1 : 1 ≤ xs.length) (hm : xs.length ≤ 1000) (hpl : 0 ≤ pl ∧ pl ≤ 1) (pa sa : Option Addr) (pc sc : Nat) (w : World) (hp : Ints w pa zs) (hs : Ints w sa [s0, s1]) (hc : zs.length ≤ pc) (hcm : pc ≤ maxLen) :
    Calls Tryd.prog 18 #[r.val, P.val ⟨zs, [s0, s1], pl⟩ pa pc sa sc] w (PosRes w ⟨ys ++ xs, [s1, s0], 1 - pl⟩) := by
  obtain ⟨i0, hi, hz0, hz1, hz2⟩ := info_parts infoI
  have hlz : zs.length = xs.length + ys.length := by rw [hz]; simp
  obtain ⟨pb, po, rfl, hpb, hpc⟩ := Row.at hp (by simp; omega)
  obtain ⟨sb, so, rfl, hsb, hsc⟩ := Row.at hs (by simp)
  have hwr : IntKind.i64.wrap (1 - pl) = 1 - pl := IntWalk.i64_in _ (by omega)
  have hsl1 := slice_lo (some ⟨pb, po, none⟩) zs.length ys.length xs.length pc r.pits hx (by omega) (by omega) hc pb po rfl
  have hsl2 := slice_hi (some ⟨pb, po, none⟩) zs.length xs.length pc r.pits hx (by omega) hc pb po rfl
  have F0 := (((Fr.start w).alloc r.cells 25).alloc #[.slice (some ⟨pb, po, none⟩) zs.length pc, .slice (some ⟨sb, so, none⟩) 2 sc, .int .i64 pl] 28).allocF #[.slice none 0 0, .slice none 0 0, .int .i64 0] 28
  simp only [World.size_alloc] at F0
  have r0 := (R.boxc (F0.at 2 rfl)).1
  obtain ⟨p0, p1, p2⟩ := (⟨F0.at 1 rfl 0 _ rfl, F0.at 1 rfl 1 _ rfl, F0.at 1 rfl 2 _ rfl⟩ : _ ∧ _ ∧ _)
  obtain ⟨bx, bf⟩ := F0.at 0 rfl
  obtain ⟨q0, q1, q2⟩ := (⟨bx 0 _ rfl, bx 1 _ rfl, bx 2 _ rfl⟩ : _ ∧ _ ∧ _)
  have B0 := F0.below
  have hsz : (((w.alloc (.cells r.cells 25)).alloc (.cells #[.slice (some ⟨pb, po, none⟩) zs.length pc, .slice (some ⟨sb, so, none⟩) 2 sc, .int .i64 pl] 28)).alloc (.cells #[.slice none 0 0, .slice none 0 0, .int .i64 0] 28)).heap.size = w.heap.size + 1 + 1 + 1 := by simp
  have hpc0 : ∀ (j : Nat) v, (zs.map (Value.int .i64))[j]? = some v → (((w.alloc (.cells r.cells 25)).alloc (.cells #[.slice (some ⟨pb, po, none⟩) zs.length pc, .slice (some ⟨sb, so, none⟩) 2 sc, .int .i64 pl] 28)).alloc (.cells #[.slice none 0 0, .slice none 0 0, .int .i64 0] 28)).cell? ⟨pb, po + j, none⟩ = some v := fun j v hv => ((bcell B0).1 _ _ hpb).trans (hpc j v hv)
  have hs00 := ((bcell B0).1 _ _ hsb).trans (hsc 0 _ rfl)
  have hs10 := ((bcell B0).1 _ _ hsb).trans (hsc 1 _ rfl)
  have HF := Lib.hid (⟨hpb, hsb, B0⟩ : _ ∧ _ ∧ _)
  have HPC := Lib.hid hpc0
  have HROW : Hid (Ints _ (some ⟨pb, po + xs.length, none⟩) ys) := fun j v hv => ⟨pb, po + xs.length, rfl, by rw [Nat.add_assoc]; exact hpc0 (xs.length + j) v (by rw [hz, List.map_append, List.getElem?_append_right (by simp)]; simpa using hv)⟩
  have HL : Hid (1 ≤ xs.length ∧ xs.length ≤ 1000 ∧ ys.length = xs.length ∧ zs = xs ++ ys) := ⟨h1, hm, hy, hz⟩
  clear hp hs hpc hsc F0 bx B0 hpc0 h1 hm hy hx hlz hc hcm hz
  go_enter Tryd.func18, Tryd.ntmps18
  go_wp2_with fail
  simp only [P.cells, R.cells] at *
  generalize hXd : (((w.alloc (.cells #[.int .i64 r.pits, .int .i64 r.seeds, .bool r.stores, .bool r.skip, .bool r.relay, .bool r.feed, .bool r.again, .int .i64 r.capture, .int .i64 r.slam] 25)).alloc (.cells #[.slice (some ⟨pb, po, none⟩) zs.length pc, .slice (some ⟨sb, so, none⟩) 2 sc, .int .i64 pl] 28)).alloc (.cells #[.slice none 0 0, .slice none 0 0, .int .i64 0] 28)) = X at *
  have HKP : Hid (∀ W : World, (∀ o, W.cell? ⟨w.heap.size, o, none⟩ = X.cell? ⟨w.heap.size, o, none⟩) → (∀ o, W.cell? ⟨w.heap.size + 1, o, none⟩ = X.cell? ⟨w.heap.size + 1, o, none⟩) → (W.cell? ⟨w.heap.size, 0, none⟩ = some (.int .i64 r.pits) ∧ W.cell? ⟨w.heap.size + 1, 0, none⟩ = some (.slice (some ⟨pb, po, none⟩) zs.length pc))) := fun W H1 H2 => ⟨(H1 _).trans r0, (H2 _).trans p0⟩
  clear r0 p0
  refine heldH (S := fun W => W.cell? ⟨w.heap.size, 0, none⟩ = some (.int .i64 r.pits) ∧ W.cell? ⟨w.heap.size + 1, 0, none⟩ = some (.slice (some ⟨pb, po, none⟩) zs.length pc)) (n := 13) (listed := #[false, false, false, false, false, false, false, false, false, false, false, false, false]) (by kernel_rfl) (by rfl) (by rfl) ?_ (fun hHeld => ?_)
  (focus ((try dsimp only); (first | done | ((first | exact HKP.out _ (fun o => hcB _ _ (by omega)) (fun o => hcB _ _ (by omega)) | exact HKP.out _ (fun o => hcA _ _ (by omega)) (fun o => hcA _ _ (by omega)) | exact HKP.out _ (fun o => rfl) (fun o => rfl)); done))))
  (refine takeH (i := 0) (v := ?_) (by decide +kernel) (by decide +kernel) (by kernel_rfl) (by rfl) (by exact fun _ _ _ h => h) (by rfl) ?_ (by assumption) ?_); rotate_left; (focus (intro w hSw; (try dsimp only at hSw); go_simp; (try with_reducible rfl); done)); (try simp only [Act.put, List.setIfInBounds_toArray, List.set_cons_zero, List.set_cons_succ])
  (refine takeH (i := 1) (v := ?_) (by decide +kernel) (by decide +kernel) (by kernel_rfl) (by rfl) (by exact fun _ _ _ h => h) (by rfl) ?_ (by assumption) ?_); rotate_left; (focus (intro w hSw; (try dsimp only at hSw); go_simp; (try with_reducible rfl); done)); (try simp only [Act.put, List.setIfInBounds_toArray, List.set_cons_zero, List.set_cons_succ])
  (refine takeH (i := 2) (v := ?_) (by decide +kernel) (by decide +kernel) (by kernel_rfl) (by rfl) (by exact fun _ _ _ h => h) (by rfl) ?_ (by assumption) ?_); rotate_left; (focus (intro w hSw; (try dsimp only at hSw); go_simp; (try with_reducible rfl); done)); (try simp only [Act.put, List.setIfInBounds_toArray, List.set_cons_zero, List.set_cons_succ])
  (refine takeH (i := 3) (v := ?_) (by decide +kernel) (by decide +kernel) (by kernel_rfl) (by rfl) (by exact fun _ _ _ h => h) (by rfl) ?_ (by assumption) ?_); rotate_left; (focus (intro w hSw; (try dsimp only at hSw); go_simp; (try with_reducible rfl); done)); (try simp only [Act.put, List.setIfInBounds_toArray, List.set_cons_zero, List.set_cons_succ])
  (refine takeH (i := 4) (v := ?_) (by decide +kernel) (by decide +kernel) (by kernel_rfl) (by rfl) (by exact fun _ _ _ h => h) (by rfl) ?_ (by assumption) ?_); rotate_left; (focus (intro w hSw; (try dsimp only at hSw); go_simp; (try with_reducible rfl); done)); (try simp only [Act.put, List.setIfInBounds_toArray, List.set_cons_zero, List.set_cons_succ])
  (refine takeH (i := 6) (v := ?_) (by decide +kernel) (by decide +kernel) (by kernel_rfl) (by rfl) (by exact fun _ _ _ h => h) (by rfl) ?_ (by assumption) ?_); rotate_left; (focus (intro w hSw; (try dsimp only at hSw); go_simp; (try with_reducible rfl); done)); (try simp only [Act.put, List.setIfInBounds_toArray, List.set_cons_zero, List.set_cons_succ])
  (refine takeH (i := 7) (v := ?_) (by decide +kernel) (by decide +kernel) (by kernel_rfl) (by rfl) (by exact fun _ _ _ h => h) (by rfl) ?_ (by assumption) ?_); rotate_left; (focus (intro w hSw; (try dsimp only at hSw); go_simp; (try with_reducible rfl); done)); (try simp only [Act.put, List.setIfInBounds_toArray, List.set_cons_zero, List.set_cons_succ])
  (refine takeH (i := 8) (v := ?_) (by decide +kernel) (by decide +kernel) (by kernel_rfl) (by rfl) (by exact fun _ _ _ h => h) (by rfl) ?_ (by assumption) ?_); rotate_left; (focus (intro w hSw; (try dsimp only at hSw); go_simp; (try with_reducible rfl); done)); (try simp only [Act.put, List.setIfInBounds_toArray, List.set_cons_zero, List.set_cons_succ])
  (refine takeH (i := 9) (v := ?_) (by decide +kernel) (by decide +kernel) (by kernel_rfl) (by rfl) (by exact fun _ _ _ h => h) (by rfl) ?_ (by assumption) ?_); rotate_left; (focus (intro w hSw; (try dsimp only at hSw); go_simp; (try with_reducible rfl); done)); (try simp only [Act.put, List.setIfInBounds_toArray, List.set_cons_zero, List.set_cons_succ])
  (refine takeH (i := 10) (v := ?_) (by decide +kernel) (by decide +kernel) (by kernel_rfl) (by rfl) (by exact fun _ _ _ h => h) (by rfl) ?_ (by assumption) ?_); rotate_left; (focus (intro w hSw; (try dsimp only at hSw); go_simp; (try with_reducible rfl); done)); (try simp only [Act.put, List.setIfInBounds_toArray, List.set_cons_zero, List.set_cons_succ])
  refine nextH (i := 5) (by decide +kernel) (by rfl) (by rfl) (fun K hK => ?_)
  (first | ((refine wp_append_lies _ _ _ 26 rfl X.heap.size 2 i0 _ 1 8 Tryd.underlying26 hi hz0 hz1 hz2 rfl (by decide) _ _ _ rfl HO1.out ⟨pb, po, none⟩ xs.length pc (xs.map (Value.int .i64)) rfl (by simp) (by intro j u hu; have h := (HC1.out.1 pb (po + j) (by have := HF.out.1; omega)).trans (HPC.out j u (by rw [HL.out.2.2.2, List.map_append]; exact getElem?_front hu)); rw [addr_add]; exact h) (by intro u hu; simp at hu; obtain ⟨_, _, rfl⟩ := hu; rfl) (by have := HL.out; omega) (by have := HL.out; unfold maxLen; omega) (by have := HL.out; omega) (by have := HB1.out.size; omega) _ rfl ?_); (intro g cap w2 hown2 hg2 hat2 hlt2); (have hB2 : Below X.heap.size X w2 := below_grown HB1.out hg2 (fun k hk => (HO1.out.lt k hk).1)); (have hcB : ∀ b o, b < w.heap.size + 1 + 1 + 1 → w2.cell? ⟨b, o, none⟩ = X.cell? ⟨b, o, none⟩ := fun b o h => (bcell hB2).1 b o (by omega))) | (go_simp; (first | (go_at_call 38; (refine (copyNumbers_c (some ⟨pb, po + xs.length, none⟩) (pc - xs.length) ys _ (HROW.out.below (Below.refl X.heap.size X).drew (Nat.le_refl _)) (by have := HL.out; omega)).mono ?_); (rintro e w1 ⟨a', c', rfl, ho1, hb1⟩); (have HB1 : Hid (Below X.heap.size X w1) := below_next (Below.refl X.heap.size X).drew hb1); (have HO1 : Hid (OwnI w1 X.heap.size a' c' ys) := ho1); (have HC1 : Hid ((∀ b o, b < X.heap.size → w1.cell? ⟨b, o, none⟩ = X.cell? ⟨b, o, none⟩) ∧ True) := ⟨(bcell HB1.out).1, trivial⟩); (have hcA : ∀ b o, b < w.heap.size + 1 + 1 + 1 → w1.cell? ⟨b, o, none⟩ = X.cell? ⟨b, o, none⟩ := fun b o h => (bcell HB1.out).1 b o (by omega)); clear hb1 ho1))))
  refine hK.out _ _ ?_ (fun hHeld' => ?_)
  (focus ((try dsimp only); (first | done | ((first | exact HKP.out _ (fun o => hcB _ _ (by omega)) (fun o => hcB _ _ (by omega)) | exact HKP.out _ (fun o => hcA _ _ (by omega)) (fun o => hcA _ _ (by omega)) | exact HKP.out _ (fun o => rfl) (fun o => rfl)); done))))
  clear hK K hHeld
  have hHeld := hHeld'
  clear hHeld'
  (try simp only [Act.put, List.setIfInBounds_toArray, List.set_cons_zero, List.set_cons_succ])
  refine nextH (i := 11) (by decide +kernel) (by rfl) (by rfl) (fun K hK => ?_)
  (first | ((refine wp_append_lies _ _ _ 26 rfl X.heap.size 2 i0 _ 1 8 Tryd.underlying26 hi hz0 hz1 hz2 rfl (by decide) _ _ _ rfl HO1.out ⟨pb, po, none⟩ xs.length pc (xs.map (Value.int .i64)) rfl (by simp) (by intro j u hu; have h := (HC1.out.1 pb (po + j) (by have := HF.out.1; omega)).trans (HPC.out j u (by rw [HL.out.2.2.2, List.map_append]; exact getElem?_front hu)); rw [addr_add]; exact h) (by intro u hu; simp at hu; obtain ⟨_, _, rfl⟩ := hu; rfl) (by have := HL.out; omega) (by have := HL.out; unfold maxLen; omega) (by have := HL.out; omega) (by have := HB1.out.size; omega) _ rfl ?_); (intro g cap w2 hown2 hg2 hat2 hlt2); (have hB2 : Below X.heap.size X w2 := below_grown HB1.out hg2 (fun k hk => (HO1.out.lt k hk).1)); (have hcB : ∀ b o, b < w.heap.size + 1 + 1 + 1 → w2.cell? ⟨b, o, none⟩ = X.cell? ⟨b, o, none⟩ := fun b o h => (bcell hB2).1 b o (by omega))) | (go_simp; (first | (go_at_call 38; (refine (copyNumbers_c (some ⟨pb, po + xs.length, none⟩) (pc - xs.length) ys _ (HROW.out.below (Below.refl X.heap.size X).drew (Nat.le_refl _)) (by have := HL.out; omega)).mono ?_); (rintro e w1 ⟨a', c', rfl, ho1, hb1⟩); (have HB1 : Hid (Below X.heap.size X w1) := below_next (Below.refl X.heap.size X).drew hb1); (have HO1 : Hid (OwnI w1 X.heap.size a' c' ys) := ho1); (have HC1 : Hid ((∀ b o, b < X.heap.size → w1.cell? ⟨b, o, none⟩ = X.cell? ⟨b, o, none⟩) ∧ True) := ⟨(bcell HB1.out).1, trivial⟩); (have hcA : ∀ b o, b < w.heap.size + 1 + 1 + 1 → w1.cell? ⟨b, o, none⟩ = X.cell? ⟨b, o, none⟩ := fun b o h => (bcell HB1.out).1 b o (by omega)); clear hb1 ho1))))
  refine hK.out _ _ ?_ (fun hHeld' => ?_)
  (focus ((try dsimp only); (first | done | ((first | exact HKP.out _ (fun o => hcB _ _ (by omega)) (fun o => hcB _ _ (by omega)) | exact HKP.out _ (fun o => hcA _ _ (by omega)) (fun o => hcA _ _ (by omega)) | exact HKP.out _ (fun o => rfl) (fun o => rfl)); done))))
  clear hK K hHeld
  have hHeld := hHeld'
  clear hHeld'
  (try simp only [Act.put, List.setIfInBounds_toArray, List.set_cons_zero, List.set_cons_succ])
  (refine takeH (i := 12) (v := ?_) (by decide +kernel) (by decide +kernel) (by kernel_rfl) (by rfl) (by exact fun _ _ _ h => h) (by rfl) ?_ (by assumption) ?_); rotate_left; (focus (intro w hSw; (try dsimp only at hSw); go_simp; (try with_reducible rfl); done)); (try simp only [Act.put, List.setIfInBounds_toArray, List.set_cons_zero, List.set_cons_succ])
  refine wpAnyH_done (by decide +kernel) ?_ _
  have g1 := (hcB (w.heap.size + 1) 1 (by omega)).trans p1
  have g2 := (hcB (w.heap.size + 1) 2 (by omega)).trans p2
  have k0 := (hcB (w.heap.size + 1 + 1) 0 (by omega)).trans q0
  have k1 := (hcB (w.heap.size + 1 + 1) 1 (by omega)).trans q1
  have k2 := (hcB (w.heap.size + 1 + 1) 2 (by omega)).trans q2
  have kf : ∀ o, w2.frozen? ⟨w.heap.size + 1 + 1, o, none⟩ = false := fun o => ((bcell hB2).2 _ o (by omega)).trans (bf o)
  have t0 : w2.cell? ⟨sb, so, none⟩ = some (.int .i64 s0) := (hcB sb so (by omega)).trans hs00
  have t1 : w2.cell? ⟨sb, so + 1, none⟩ = some (.int .i64 s1) := (hcB sb (so + 1) (by omega)).trans hs10
  have hz2s : w.heap.size + 1 + 1 + 1 ≤ w2.heap.size := by have := hB2.size; omega
  have HB2 := Lib.hid (below_next HF.out.2.2 hB2)
  have HO2 : Hid (OwnI w2 (w.heap.size + 1 + 1 + 1) (some ⟨g, 0, none⟩) cap (ys ++ xs)) := by
    unfold Hid OwnI
    rw [List.length_append, List.map_append, ← hsz]; exact hown2
  have HK2 : Hid (∀ W : World, (∀ b o, b < w.heap.size + 1 + 1 + 1 → ¬ b = w.heap.size + 1 + 1 → W.cell? ⟨b, o, none⟩ = w2.cell? ⟨b, o, none⟩) → (W.cell? ⟨w.heap.size + 1, 1, none⟩ = some (.slice (some ⟨sb, so, none⟩) 2 sc) ∧ W.cell? ⟨w.heap.size + 1, 2, none⟩ = some (.int .i64 pl) ∧ W.cell? ⟨sb, so, none⟩ = some (.int .i64 s0) ∧ W.cell? ⟨sb, so + 1, none⟩ = some (.int .i64 s1))) := fun W H => ⟨(H _ _ (by omega) (by omega)).trans g1, (H _ _ (by omega) (by omega)).trans g2, (H _ _ (by omega) (by omega)).trans t0, (H _ _ (by omega) (by omega)).trans t1⟩
  clear g1 g2 t0 t1 hcB hcA hown2 hg2 hat2 hB2 HKP HC1 HO1 HB1 p1 p2 q0 q1 q2 bf hs00 hs10 hsl1 hsl2 hHeld HPC HROW HF hXd
  have zC : w.heap.size + 1 + 1 < w2.heap.size := by omega
  have zD : w.heap.size + 1 < w2.heap.size := by omega
  have zE : w.heap.size < w2.heap.size := by omega
  go_wp2_with fail
  refine heldH (S := fun W => W.cell? ⟨w.heap.size + 1, 1, none⟩ = some (.slice (some ⟨sb, so, none⟩) 2 sc) ∧ W.cell? ⟨w.heap.size + 1, 2, none⟩ = some (.int .i64 pl) ∧ W.cell? ⟨sb, so, none⟩ = some (.int .i64 s0) ∧ W.cell? ⟨sb, so + 1, none⟩ = some (.int .i64 s1)) (n := 15) (listed := #[false, false, false, false, false, false, false, false, false, false, false, false, false, false, false]) (by kernel_rfl) (by rfl) (by rfl) ?_ (fun hHeld => ?_)
  (focus ((try dsimp only); (first | done | ((first | exact HK2.out _ (fun b o h hn => rfl) | (refine HK2.out _ (fun b o h hn => ?_); (have hb : ¬ b = w2.heap.size := by omega); (have hb2 : b < w2.heap.size := by omega); simp [go_sem, hb, hb2, hn]; done)); done))))
  (refine takeH (i := 0) (v := ?_) (by decide +kernel) (by decide +kernel) (by kernel_rfl) (by rfl) (by exact fun _ _ _ h => h) (by rfl) ?_ (by assumption) ?_); rotate_left; (focus (intro w hSw; (try dsimp only at hSw); go_simp; (try with_reducible rfl); done)); (try simp only [Act.put, List.setIfInBounds_toArray, List.set_cons_zero, List.set_cons_succ])
  (refine takeH (i := 1) (v := ?_) (by decide +kernel) (by decide +kernel) (by kernel_rfl) (by rfl) (by exact fun _ _ _ h => h) (by rfl) ?_ (by assumption) ?_); rotate_left; (focus (intro w hSw; (try dsimp only at hSw); go_simp; (try with_reducible rfl); done)); (try simp only [Act.put, List.setIfInBounds_toArray, List.set_cons_zero, List.set_cons_succ])
  (refine takeH (i := 2) (v := ?_) (by decide +kernel) (by decide +kernel) (by kernel_rfl) (by rfl) (by exact fun _ _ _ h => h) (by rfl) ?_ (by assumption) ?_); rotate_left; (focus (intro w hSw; (try dsimp only at hSw); go_simp; (try with_reducible rfl); done)); (try simp only [Act.put, List.setIfInBounds_toArray, List.set_cons_zero, List.set_cons_succ])
  (refine takeH (i := 3) (v := ?_) (by decide +kernel) (by decide +kernel) (by kernel_rfl) (by rfl) (by exact fun _ _ _ h => h) (by rfl) ?_ (by assumption) ?_); rotate_left; (focus (intro w hSw; (try dsimp only at hSw); go_simp; (try with_reducible rfl); done)); (try simp only [Act.put, List.setIfInBounds_toArray, List.set_cons_zero, List.set_cons_succ])
  (refine takeH (i := 4) (v := ?_) (by decide +kernel) (by decide +kernel) (by kernel_rfl) (by rfl) (by exact fun _ _ _ h => h) (by rfl) ?_ (by assumption) ?_); rotate_left; (focus (intro w hSw; (try dsimp only at hSw); go_simp; (try with_reducible rfl); done)); (try simp only [Act.put, List.setIfInBounds_toArray, List.set_cons_zero, List.set_cons_succ])
  (refine takeH (i := 5) (v := ?_) (by decide +kernel) (by decide +kernel) (by kernel_rfl) (by rfl) (by exact fun _ _ _ h => h) (by rfl) ?_ (by assumption) ?_); rotate_left; (focus (intro w hSw; (try dsimp only at hSw); go_simp; (try with_reducible rfl); done)); (try simp only [Act.put, List.setIfInBounds_toArray, List.set_cons_zero, List.set_cons_succ])
  (refine takeH (i := 6) (v := ?_) (by decide +kernel) (by decide +kernel) (by kernel_rfl) (by rfl) (by exact fun _ _ _ h => h) (by rfl) ?_ (by assumption) ?_); rotate_left; (focus (intro w hSw; (try dsimp only at hSw); go_simp; (try with_reducible rfl); done)); (try simp only [Act.put, List.setIfInBounds_toArray, List.set_cons_zero, List.set_cons_succ])
  (refine takeH (i := 7) (v := ?_) (by decide +kernel) (by decide +kernel) (by kernel_rfl) (by rfl) (by exact fun _ _ _ h => h) (by rfl) ?_ (by assumption) ?_); rotate_left; (focus (intro w hSw; (try dsimp only at hSw); go_simp; (try with_reducible rfl); done)); (try simp only [Act.put, List.setIfInBounds_toArray, List.set_cons_zero, List.set_cons_succ])
  (refine takeH (i := 8) (v := ?_) (by decide +kernel) (by decide +kernel) (by kernel_rfl) (by rfl) (by exact fun _ _ _ h => h) (by rfl) ?_ (by assumption) ?_); rotate_left; (focus (intro w hSw; (try dsimp only at hSw); go_simp; (try with_reducible rfl); done)); (try simp only [Act.put, List.setIfInBounds_toArray, List.set_cons_zero, List.set_cons_succ])
  (refine takeH (i := 10) (v := ?_) (by decide +kernel) (by decide +kernel) (by kernel_rfl) (by rfl) (by exact fun _ _ _ h => h) (by rfl) ?_ (by assumption) ?_); rotate_left; (focus (intro w hSw; (try dsimp only at hSw); go_simp; (try with_reducible rfl); done)); (try simp only [Act.put, List.setIfInBounds_toArray, List.set_cons_zero, List.set_cons_succ])
  (refine takeH (i := 11) (v := ?_) (by decide +kernel) (by decide +kernel) (by kernel_rfl) (by rfl) (by exact fun _ _ _ h => h) (by rfl) ?_ (by assumption) ?_); rotate_left; (focus (intro w hSw; (try dsimp only at hSw); go_simp; (try with_reducible rfl); done)); (try simp only [Act.put, List.setIfInBounds_toArray, List.set_cons_zero, List.set_cons_succ])
  (refine takeH (i := 12) (v := ?_) (by decide +kernel) (by decide +kernel) (by kernel_rfl) (by rfl) (by exact fun _ _ _ h => h) (by rfl) ?_ (by assumption) ?_); rotate_left; (focus (intro w hSw; (try dsimp only at hSw); go_simp; (try with_reducible rfl); done)); (try simp only [Act.put, List.setIfInBounds_toArray, List.set_cons_zero, List.set_cons_succ])
  refine nextH (i := 9) (by decide +kernel) (by rfl) (by rfl) (fun K hK => ?_)
  go_simp
  (skip)
  refine hK.out _ _ ?_ (fun hHeld' => ?_)
  (focus ((try dsimp only); (first | done | ((first | exact HK2.out _ (fun b o h hn => rfl) | (refine HK2.out _ (fun b o h hn => ?_); (have hb : ¬ b = w2.heap.size := by omega); (have hb2 : b < w2.heap.size := by omega); simp [go_sem, hb, hb2, hn]; done)); done))))
  clear hK K hHeld
  have hHeld := hHeld'
  clear hHeld'
  (try simp only [Act.put, List.setIfInBounds_toArray, List.set_cons_zero, List.set_cons_succ])
  (refine takeH (i := 13) (v := ?_) (by decide +kernel) (by decide +kernel) (by kernel_rfl) (by rfl) (by exact fun _ _ _ h => h) (by rfl) ?_ (by assumption) ?_); rotate_left; (focus (intro w hSw; (try dsimp only at hSw); go_simp; (try with_reducible rfl); done)); (try simp only [Act.put, List.setIfInBounds_toArray, List.set_cons_zero, List.set_cons_succ])
  refine nextH (i := 14) (by decide +kernel) (by rfl) (by rfl) (fun K hK => ?_)
  go_simp
  (skip)
  refine hK.out _ _ ?_ (fun hHeld' => ?_)
  (focus ((try dsimp only); (first | done | ((first | exact HK2.out _ (fun b o h hn => rfl) | (refine HK2.out _ (fun b o h hn => ?_); (have hb : ¬ b = w2.heap.size := by omega); (have hb2 : b < w2.heap.size := by omega); simp [go_sem, hb, hb2, hn]; done)); done))))
  clear hK K hHeld
  have hHeld := hHeld'
  clear hHeld'
  (try simp only [Act.put, List.setIfInBounds_toArray, List.set_cons_zero, List.set_cons_succ])
  refine wpAnyH_done (by decide +kernel) ?_ _
  clear hHeld
  go_wp2
  refine bodyPost_ret (v := P.val ⟨ys ++ xs, [s1, s0], 1 - pl⟩ (some ⟨g, 0, none⟩) cap (some ⟨w2.heap.size, 0, none⟩) 2) (by simp [results, Tryd.results18, go_sem, k0, k1, k2, kf, zC, zD, zE, P.val, P.cells]) rfl ?_
  refine ⟨some ⟨g, 0, none⟩, cap, some ⟨w2.heap.size, 0, none⟩, 2, rfl, ⟨?_, ?_, ?_⟩, ?_⟩
  · have k9 := HO2.out
    dsimp only
    refine ownsRow_le (base := w.heap.size + 1 + 1 + 1) ?_ (by omega)
    repeat (first | (with_reducible exact k9) | ((with_reducible refine ownsRow_setCell_below ?_ ?_ _); rotate_left; (simp <;> omega)) | (with_reducible refine World.ownsRow.alloc ?_ _) | (with_reducible refine World.ownsRow.drew ?_))
  · have k9 := World.ownsRow_lit (base := w.heap.size + 1 + 1 + 1) (e := 2) (size := 1) (((w2.setCell ⟨w.heap.size + 1 + 1, 0, none⟩ (.slice (some ⟨g, 0, none⟩) (ys.length + xs.length) cap)).setCell ⟨w.heap.size + 1 + 1, 1, none⟩ (.slice (some ⟨w2.heap.size, 0, none⟩) 2 2)).setCell ⟨w.heap.size + 1 + 1, 2, none⟩ (.int .i64 (1 - pl))) #[.int .i64 s1, .int .i64 s0] 2 (by simp; omega) (by unfold maxLen; omega) rfl
    simp only [World.size_setCell] at k9
    exact ownsRow_le k9 (by omega)
  · refine .inr (fun e => ?_)
    have h1 := (HO2.out.lt g rfl).2
    simp [Value.ownBlock] at e
    omega
  · have k9 := HB2.out
    repeat (first | (with_reducible exact k9) | ((with_reducible refine Below.setCell ?_ ?_ _); rotate_left; (simp <;> omega)) | ((with_reducible refine Below.alloc ?_ ?_ _); rotate_left; (first | omega | (simp <;> omega))) | (with_reducible refine Below.drew ?_))



def turnP (r : R) (p : P) : P := ⟨p.pits.drop r.pits.toNat ++ p.pits.take r.pits.toNat, [p.stores.getD 1 0, p.stores.getD 0 0], 1 - p.player⟩
theorem turn_parts {r : R} {p : P} (h : p.ok r = true) : ∃ xs ys s0 s1, p = ⟨xs ++ ys, [s0, s1], p.player⟩ ∧ (xs.length : Int) = r.pits ∧ ys.length = xs.length ∧ 1 ≤ xs.length ∧ xs.length ≤ 1000 ∧ turnP r p = ⟨ys ++ xs, [s1, s0], 1 - p.player⟩ := by
  obtain ⟨hb, _, t, hB, _⟩ := P.ok_parts h
  have b1 := hb.lo; have b2 := hb.hi; have b3 := hB.lp; have b4 := hB.ls
  obtain ⟨zs, ss, pl⟩ := p
  simp only at b3 b4
  obtain ⟨s0, s1, rfl⟩ : ∃ a b, ss = [a, b] := by
    match ss, b4 with
    | [a, b], _ => exact ⟨a, b, rfl⟩
  refine ⟨zs.take r.pits.toNat, zs.drop r.pits.toNat, s0, s1, by simp, ?_, ?_, ?_, ?_, ?_⟩
  · simp; omega
  · simp; omega
  · simp; omega
  · simp; omega
  · simp [turnP]
theorem P.ok_lens {p : P} {r : R} (h : p.ok r = true) : p.pits.length ≤ 16 ∧ p.stores.length ≤ 16 := by
  obtain ⟨hb, _, t, hB, _⟩ := P.ok_parts h
  have := hb.hi; have := hB.lp; have := hB.ls
  omega
def viewP (p : P) : P := if p.player = 1 then ⟨p.pits.drop (p.pits.length / 2) ++ p.pits.take (p.pits.length / 2), p.stores.reverse, 1 - p.player⟩ else p
theorem viewP_turn {r : R} {p : P} (h : p.ok r = true) (h1 : p.player = 1) : ∃ xs ys s0 s1, p = ⟨xs ++ ys, [s0, s1], p.player⟩ ∧ (xs.length : Int) = r.pits ∧ ys.length = xs.length ∧ 1 ≤ xs.length ∧ xs.length ≤ 1000 ∧ viewP p = ⟨ys ++ xs, [s1, s0], 1 - p.player⟩ := by
  obtain ⟨hb, _, t, hB, _⟩ := P.ok_parts h
  have b1 := hb.lo; have b2 := hb.hi; have b3 := hB.lp; have b4 := hB.ls
  obtain ⟨zs, ss, pl⟩ := p
  simp only at b3 b4 h1
  obtain ⟨s0, s1, rfl⟩ : ∃ a b, ss = [a, b] := by
    match ss, b4 with
    | [a, b], _ => exact ⟨a, b, rfl⟩
  have hd : zs.length / 2 = r.pits.toNat := by omega
  refine ⟨zs.take r.pits.toNat, zs.drop r.pits.toNat, s0, s1, by simp, ?_, ?_, ?_, ?_, ?_⟩
  · simp; omega
  · simp; omega
  · simp; omega
  · simp; omega
  · simp [viewP, h1, hd]
theorem viewP_own {p : P} (h : ¬ p.player = 1) : viewP p = p := if_neg h
theorem viewP_len {r : R} {p : P} (h : p.ok r = true) : (viewP p).pits.length ≤ 16 ∧ (viewP p).stores.length ≤ 16 := by
  have hl := P.ok_lens h
  unfold viewP
  split
  · simp; omega
  · exact hl
theorem P.ok_player {p : P} {r : R} (h : p.ok r = true) : p.player = 0 ∨ p.player = 1 := by
  obtain ⟨_, ⟨pn, h1, h2⟩, _⟩ := P.ok_parts h
  omega

set_option maxRecDepth 100000 in
set_option maxHeartbeats 8000000 in
theorem view_c (r : R) (p : P) (hok : p.ok r = true) (pa sa : Option Addr) (pc sc : Nat) (w : World) (h : PRow w p pa sa) (hc : p.pits.length ≤ pc) (hcm : pc ≤ maxLen) :
    Calls Tryd.prog 20 #[r.val, p.val pa pc sa sc] w (PosRes w (viewP p)) := by
  have F0 := (((Fr.start w).alloc r.cells 25).alloc (p.cells pa pc sa sc) 28).allocF #[.slice none 0 0, .slice none 0 0, .int .i64 0] 28
  simp only [World.size_alloc] at F0
  have HP := Lib.hid (h.below F0.below (Nat.le_refl _))
  have hl := P.ok_lens hok
  rcases P.ok_player hok with hp | hp
  · have hb : (p.player == 0) = true := by simp [hp]
    have hy : viewP p = p := viewP_own (by omega)
    have HM0 : ∀ W, PRow W p pa sa → Calls Tryd.prog 42 #[p.val pa pc sa sc] W (PosRes W (viewP p)) := fun W hW => by rw [hy]; exact copied_c p pa sa pc sc W hW (by omega) (by omega)
    obtain ⟨y, hyy⟩ : ∃ y, y = viewP p := ⟨_, rfl⟩
    rw [← hyy] at HM0 ⊢
    have HM := Lib.hid (HM0 _ HP.out)
    clear HM0
    clear hp hy hyy hl HP h hok hc hcm
    go_enter Tryd.func20, Tryd.ntmps20
    go_wp2_with fail
    refine HM.out.mono ?_
    rintro e w1 ⟨ua, uc, va, vc, rfl, ho, hb1⟩
    have F1 := F0.step hb1
    obtain ⟨bx, bf⟩ := F1.at 0 rfl
    obtain ⟨x0, x1, x2⟩ := (⟨bx 0 _ rfl, bx 1 _ rfl, bx 2 _ rfl⟩ : _ ∧ _ ∧ _)
    have zC : w.heap.size + 1 + 1 < w1.heap.size := F1.le 0 rfl
    have B1 := F1.below
    simp only [World.size_alloc] at ho
    have HO := Lib.hid ho
    have hzb : w.heap.size + 1 + 1 + 1 ≤ w1.heap.size := by omega
    have hzw : w.heap.size ≤ w.heap.size + 1 + 1 := by omega
    clear bx F0 F1 HM hb1 ho
    go_wp2
    refine bodyPost_ret (v := y.val ua uc va vc) (by simp [results, Tryd.results20, go_sem, x0, x1, x2, bf, zC, P.val, P.cells]) rfl ?_
    refine ⟨ua, uc, va, vc, rfl, ⟨?_, ?_, HO.out.apart⟩, ?_⟩
    · have k0 := HO.out.pits
      refine ownsRow_le (base := w.heap.size + 1 + 1 + 1) ?_ (by omega)
      repeat (first | (with_reducible exact k0) | ((with_reducible refine ownsRow_setCell_below ?_ ?_ _); rotate_left; (simp <;> omega)) | (with_reducible refine World.ownsRow.drew ?_))
    · have k0 := HO.out.stores
      refine ownsRow_le (base := w.heap.size + 1 + 1 + 1) ?_ (by omega)
      repeat (first | (with_reducible exact k0) | ((with_reducible refine ownsRow_setCell_below ?_ ?_ _); rotate_left; (simp <;> omega)) | (with_reducible refine World.ownsRow.drew ?_))
    · repeat (first | (with_reducible exact B1) | ((with_reducible refine Below.setCell ?_ ?_ _); rotate_left; (simp <;> omega)) | (with_reducible refine Below.drew ?_))
  · have hb : (p.player == 0) = false := by simp [hp]
    obtain ⟨xs, ys, s0, s1, h1, h2, h3, h4, h5, h6⟩ := viewP_turn hok hp
    have HM0 : ∀ W, PRow W p pa sa → Calls Tryd.prog 18 #[r.val, p.val pa pc sa sc] W (PosRes W (viewP p)) := fun W hpp => by
      rw [h6]
      have hpl : 0 ≤ p.player ∧ p.player ≤ 1 := by omega
      clear h6 hp hb HP F0
      generalize p.player = pl at *
      subst h1
      exact turned_c r (xs ++ ys) xs ys s0 s1 pl rfl h2 h3 h4 h5 hpl pa sa pc sc _ hpp.pits hpp.stores hc hcm
    obtain ⟨y, hyy⟩ : ∃ y, y = viewP p := ⟨_, rfl⟩
    rw [← hyy] at HM0 ⊢
    have HM := Lib.hid (HM0 _ HP.out)
    clear HM0
    clear hp hyy hl HP h hok hc hcm h1 h2 h3 h4 h5 h6
    go_enter Tryd.func20, Tryd.ntmps20
    go_wp2_with fail
    refine HM.out.mono ?_
    rintro e w1 ⟨ua, uc, va, vc, rfl, ho, hb1⟩
    have F1 := F0.step hb1
    obtain ⟨bx, bf⟩ := F1.at 0 rfl
    obtain ⟨x0, x1, x2⟩ := (⟨bx 0 _ rfl, bx 1 _ rfl, bx 2 _ rfl⟩ : _ ∧ _ ∧ _)
    have zC : w.heap.size + 1 + 1 < w1.heap.size := F1.le 0 rfl
    have B1 := F1.below
    simp only [World.size_alloc] at ho
    have HO := Lib.hid ho
    have hzb : w.heap.size + 1 + 1 + 1 ≤ w1.heap.size := by omega
    have hzw : w.heap.size ≤ w.heap.size + 1 + 1 := by omega
    clear bx F0 F1 HM hb1 ho
    go_wp2
    refine bodyPost_ret (v := y.val ua uc va vc) (by simp [results, Tryd.results20, go_sem, x0, x1, x2, bf, zC, P.val, P.cells]) rfl ?_
    refine ⟨ua, uc, va, vc, rfl, ⟨?_, ?_, HO.out.apart⟩, ?_⟩
    · have k0 := HO.out.pits
      refine ownsRow_le (base := w.heap.size + 1 + 1 + 1) ?_ (by omega)
      repeat (first | (with_reducible exact k0) | ((with_reducible refine ownsRow_setCell_below ?_ ?_ _); rotate_left; (simp <;> omega)) | (with_reducible refine World.ownsRow.drew ?_))
    · have k0 := HO.out.stores
      refine ownsRow_le (base := w.heap.size + 1 + 1 + 1) ?_ (by omega)
      repeat (first | (with_reducible exact k0) | ((with_reducible refine ownsRow_setCell_below ?_ ?_ _); rotate_left; (simp <;> omega)) | (with_reducible refine World.ownsRow.drew ?_))
    · repeat (first | (with_reducible exact B1) | ((with_reducible refine Below.setCell ?_ ?_ _); rotate_left; (simp <;> omega)) | (with_reducible refine Below.drew ?_))


structure A2 where
  pa : Option Addr
  pc : Nat
  sa : Option Addr
  sc : Nat
/-- a position and a number, out of a call -/
def PvRes (w : World) (y : P × Int) (e : Ending) (w' : World) : Prop := ∃ A : A2, e = .returned (.tuple #[y.1.val A.pa A.pc A.sa A.sc, .int .i64 y.2]) ∧ POwn w' w.heap.size y.1 A.pa A.pc A.sa A.sc ∧ Below w.heap.size w w'
def vofP (r : R) (p : P) : P × Int := if p.ok r = true then (viewP p, 0) else (⟨[], [], 0⟩, 1)
theorem vofP_len (r : R) (p : P) : (vofP r p).1.pits.length ≤ 1048576 ∧ (vofP r p).1.stores.length ≤ 1048576 := by
  unfold vofP
  split
  · rename_i h
    have := viewP_len h
    dsimp only
    omega
  · simp

set_option maxRecDepth 100000 in
set_option maxHeartbeats 8000000 in
theorem iViewOf_c (r : R) (p : P) (pa sa : Option Addr) (pc sc : Nat) (w : World) (h : PRow w p pa sa) (m1 : p.pits.length ≤ 16777216) (m2 : p.stores.length ≤ 16777216) (hc : p.pits.length ≤ pc) (hcm : pc ≤ maxLen) :
    Calls Tryd.prog 8 #[r.val, p.val pa pc sa sc] w (PvRes w (vofP r p)) := by
  have F0 := (((Fr.start w).alloc r.cells 25).alloc (p.cells pa pc sa sc) 28).allocF #[.slice none 0 0, .slice none 0 0, .int .i64 0] 28
  simp only [World.size_alloc] at F0
  have HP := Lib.hid (h.below F0.below (Nat.le_refl _))
  have HV := Lib.hid (ValidPosition_c r p pa sa pc sc _ HP.out m1 m2)
  have HPV0 : Hid (PRow w p pa sa) := h
  unfold vofP
  cases hok : p.ok r
  · rw [if_neg (by simp)]
    rw [hok] at HV
    clear hok h
    go_enter Tryd.func8, Tryd.ntmps8
    go_wp2_with fail
    refine HV.out.mono ?_
    rintro e wv ⟨rfl, hbv⟩
    have HPV := Lib.hid (HP.out.below hbv (Nat.le_refl _))
    have F0 := F0.step hbv
    obtain ⟨c0, c1, c2, c3, c4, c5, c6, c7, c8⟩ := R.boxc (F0.at 2 rfl)
    obtain ⟨d0, d1, d2⟩ := P.boxc (F0.at 1 rfl)
    clear hbv
    obtain ⟨bx, bf⟩ := F0.at 0 rfl
    obtain ⟨x0, x1, x2⟩ := (⟨bx 0 _ rfl, bx 1 _ rfl, bx 2 _ rfl⟩ : _ ∧ _ ∧ _)
    have zC : w.heap.size + 1 + 1 < wv.heap.size := F0.le 0 rfl
    have B1 := F0.below
    clear bx F0
    go_wp2
    refine bodyPost_ret (v := .tuple #[P.val ⟨[], [], 0⟩ none 0 none 0, .int .i64 1]) (by simp [results, Tryd.results8, go_sem, x0, x1, x2, bf, zC, P.val, P.cells]) rfl ?_
    refine ⟨⟨none, 0, none, 0⟩, rfl, ⟨World.ownsRow_nil _ _ _ _, World.ownsRow_nil _ _ _ _, .inl rfl⟩, ?_⟩
    repeat (first | (with_reducible exact B1) | ((with_reducible refine Below.setCell ?_ ?_ _); rotate_left; (simp <;> omega)) | (with_reducible refine Below.drew ?_))
  · rw [if_pos rfl]
    have HM0 : ∀ W, PRow W p pa sa → Calls Tryd.prog 20 #[r.val, p.val pa pc sa sc] W (PosRes W (viewP p)) := fun W hW => view_c r p hok pa sa pc sc W hW hc hcm
    rw [hok] at HV
    obtain ⟨y, hyy⟩ : ∃ y, y = viewP p := ⟨_, rfl⟩
    rw [← hyy] at HM0 ⊢
    have HM1 := Lib.hid HM0
    clear hyy HM0 hok h
    go_enter Tryd.func8, Tryd.ntmps8
    go_wp2_with fail
    refine HV.out.mono ?_
    rintro e wv ⟨rfl, hbv⟩
    have HPV := Lib.hid (HP.out.below hbv (Nat.le_refl _))
    have F0 := F0.step hbv
    obtain ⟨c0, c1, c2, c3, c4, c5, c6, c7, c8⟩ := R.boxc (F0.at 2 rfl)
    obtain ⟨d0, d1, d2⟩ := P.boxc (F0.at 1 rfl)
    clear hbv
    have HM := Lib.hid (HM1.out _ HPV.out)
    clear HM1
    go_wp2_with fail
    refine HM.out.mono ?_
    rintro e w1 ⟨ua, uc, va, vc, rfl, ho, hb1⟩
    have hzv : w.heap.size + 1 + 1 < wv.heap.size := F0.le 0 rfl
    have F1 := F0.step hb1
    obtain ⟨bx, bf⟩ := F1.at 0 rfl
    obtain ⟨x0, x1, x2⟩ := (⟨bx 0 _ rfl, bx 1 _ rfl, bx 2 _ rfl⟩ : _ ∧ _ ∧ _)
    have zC : w.heap.size + 1 + 1 < w1.heap.size := F1.le 0 rfl
    have B1 := F1.below
    (try simp only [World.size_alloc] at ho)
    have HO := Lib.hid ho
    have hzb : w.heap.size + 1 + 1 + 1 ≤ w1.heap.size := by omega
    have hzw : w.heap.size ≤ w.heap.size + 1 + 1 := by omega
    clear bx F0 F1 HM hb1 ho
    go_wp2
    refine bodyPost_ret (v := .tuple #[y.val ua uc va vc, .int .i64 0]) (by simp [results, Tryd.results8, go_sem, x0, x1, x2, bf, zC, P.val, P.cells]) rfl ?_
    refine ⟨⟨ua, uc, va, vc⟩, rfl, ⟨?_, ?_, HO.out.apart⟩, ?_⟩
    · have k0 := HO.out.pits
      dsimp only at k0 ⊢
      refine ownsRow_le (base := wv.heap.size) ?_ (by omega)
      repeat (first | (with_reducible exact k0) | ((with_reducible refine ownsRow_setCell_below ?_ ?_ _); rotate_left; (simp <;> omega)) | (with_reducible refine World.ownsRow.drew ?_))
    · have k0 := HO.out.stores
      dsimp only at k0 ⊢
      refine ownsRow_le (base := wv.heap.size) ?_ (by omega)
      repeat (first | (with_reducible exact k0) | ((with_reducible refine ownsRow_setCell_below ?_ ?_ _); rotate_left; (simp <;> omega)) | (with_reducible refine World.ownsRow.drew ?_))
    · repeat (first | (with_reducible exact B1) | ((with_reducible refine Below.setCell ?_ ?_ _); rotate_left; (simp <;> omega)) | (with_reducible refine Below.drew ?_))


theorem own_cap {w : World} {base size n c : Nat} {e : TypeId} {a : Option Addr} {vs : List Value} (h : w.ownsRow base e size (.slice a n c) n vs) : n ≤ c := by
  obtain ⟨_, ⟨h1, h2⟩ | ⟨g, cap, cur, hv, hb, hg, hn, _⟩⟩ := h
  · omega
  · cases hv; exact hn
/-- a new row of numbers -/
def IntsRes (w : World) (xs : List Int) (e : Ending) (w' : World) : Prop := ∃ a c, e = .returned (.slice a xs.length c) ∧ OwnI w' w.heap.size a c xs ∧ Below w.heap.size w w'
theorem own_none (w : World) (base : Nat) (h : base ≤ w.heap.size) : OwnI (w.alloc (.cells #[] 2)) base (some ⟨w.heap.size, 0, none⟩) 0 [] := by
  have := World.ownsRow_lit (base := base) (e := 2) (size := 1) w #[] 0 h (Nat.zero_le _) rfl
  simpa [OwnI] using this
/-- a row that has grown by some numbers -/
theorem Fr.app {w0 w w4 : World} {lo hi c c4 m : Nat} {a a4 : Option Addr} {xs ys : List Int} {cs : Array Value} {e : TypeId} {ls : List Res} (h : Fr w0 w (⟨lo, hi, RowP lo hi a c xs⟩ :: ls)) (hl : w0.heap.size ≤ lo) (hd : ∀ r ∈ ls, r.hi ≤ lo)
    (hg : (w.alloc (.cells cs e)).grownBy w4 (Value.slice a xs.length c).ownBlock) (ho : w4.ownsRow lo 2 1 (.slice a4 (xs.length + m) c4) (xs.length + m) (xs.map (Value.int .i64) ++ ys.map (Value.int .i64))) (hm : ys.length = m) :
    Fr w0 w4 (⟨lo, w4.heap.size, RowP lo w4.heap.size a4 c4 (xs ++ ys)⟩ :: ls) := by
  have h1 := h.step (below_alloc1 w (.cells cs e))
  have h2 := h1.chg (RowP.chg (h1.at 0 rfl) hg) hl (fun r hr => .inl (hd r hr))
  refine h2.own ?_
  subst hm
  simpa [OwnI] using ho

theorem sub_row {w : World} {b o : Nat} {xs : List Int} (h : ∀ (j : Nat) (hj : j < xs.length), w.cell? ⟨b, o + j, none⟩ = some (.int .i64 xs[j])) (lo n : Nat) : Ints w (some ⟨b, o + lo, none⟩) ((xs.drop lo).take n) := by
  intro j v hv
  simp only [List.getElem?_map, List.getElem?_take, List.getElem?_drop] at hv
  split at hv
  · have hj : lo + j < xs.length := by
      rcases Nat.lt_or_ge (lo + j) xs.length with h1 | h1
      · exact h1
      · rw [List.getElem?_eq_none h1] at hv; simp at hv
    rw [List.getElem?_eq_getElem hj] at hv
    simp at hv
    refine ⟨b, o + lo, rfl, ?_⟩
    rw [Nat.add_assoc, h _ hj, hv]
  · simp at hv
theorem sub_sum {xs : List Int} (h : allIn xs = true) (lo n : Nat) : allIn ((xs.drop lo).take n) = true := by
  refine List.all_eq_true.2 fun x hx => ?_
  exact List.all_eq_true.1 h x (List.mem_of_mem_drop (List.mem_of_mem_take hx))
set_option maxHeartbeats 4000000 in
theorem side_c (r : R) (hb : r.Bd) (pn : Nat) (hp : pn ≤ 1) (P : List Int) (hlen : (P.length : Int) = 2 * r.pits) (ha : allIn P = true) (pa : Option Addr) (pc : Nat) (w : World) (hP : Ints w pa P) (hc : P.length ≤ pc) (hcm : pc ≤ maxLen) :
    Calls Tryd.prog 23 #[r.val, .slice pa P.length pc, .int .i64 pn] w fun e w' => e = .returned (.int .i64 (sideP r P pn)) ∧ Below w.heap.size w w' := by
  obtain ⟨lo, hi⟩ := hb
  obtain ⟨b, o, rfl, hbs, hcs⟩ := Ints.open hP (by omega)
  obtain ⟨k, hk⟩ : ∃ k : Nat, r.pits = k := ⟨r.pits.toNat, by omega⟩
  obtain ⟨u, hu⟩ : ∃ u : Nat, u = pn * k := ⟨_, rfl⟩
  obtain ⟨v, hv⟩ : ∃ v : Nat, v = (pn + 1) * k := ⟨_, rfl⟩
  have e1 : (pn : Int) * r.pits = (u : Int) := by rw [hk, hu]; simp
  have e2 : ((pn : Int) + 1) * r.pits = (v : Int) := by rw [hk, hv]; simp
  have hk1 : v ≤ P.length := by
    have : (pn + 1) * k ≤ 2 * k := Nat.mul_le_mul_right k (by omega)
    omega
  have hk2 : v = u + k := by rw [hv, hu, Nat.add_mul]; simp
  have hk3 : v - u = k := by omega
  have hll : ((P.drop u).take k).length = v - u := by simp; omega
  have hS := sumOf_c (some ⟨b, o + u, none⟩) (pc - u) ((P.drop u).take k) (w.alloc (.cells r.cells 25)) (fun j v hv => by
    obtain ⟨b', o', e, h⟩ := sub_row hcs u k j v hv
    cases e
    exact ⟨b, o + u, rfl, ((below_alloc1 w _).cell (show (Addr.mk b _ none).block < _ from hbs)).trans h⟩) (by omega)
  rw [hll, hk3] at hS
  have hvv : sumO ((P.drop u).take k) = sideP r P pn := by
    unfold sumO sideP
    rw [if_pos (sub_sum ha _ _), e1, Int.toNat_natCast, hk, Int.toNat_natCast]
  have HS := Lib.hid hS
  have HV := Lib.hid hvv
  have hpk : u ≤ 8 := by
    have : pn * k ≤ 1 * k := Nat.mul_le_mul_right k hp
    omega
  have hpv : v ≤ 16 := by omega
  have huv : u ≤ v := by omega
  have hvc : v ≤ pc := by omega
  have hc1 : ¬ pc ≤ u := by omega
  have hc2 : ¬ pc - u = 0 := by omega
  have hc3 : u < pc := by omega
  clear hS hvv hcs hll hu hv hk hk2
  go_enter Tryd.func23, Tryd.ntmps23
  go_wp2_with (go_at_call 21; refine HS.out.mono ?_; rintro e w' ⟨rfl, rfl⟩)
  go_ret
  exact ⟨by rw [HV.out]; rfl, below_alloc1 _ _⟩


end Go.Proofs.YtenjffoboiohnaaDoor
