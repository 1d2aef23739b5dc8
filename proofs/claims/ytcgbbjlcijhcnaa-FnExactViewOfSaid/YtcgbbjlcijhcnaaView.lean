/- View: a position as the player to move sees it: the program's and the reference's functions. Each contract holds for every argument, under the premises that it states. -/
import Derived.Test.YtcgbbjlcijhcnaaOwn
import Derived.Test.YtcgbbjlcijhcnaaPosR
import Derived.Test.YtcgbbjlcijhcnaaResP
import Derived.Deep.AppendLies
import Derived.Deep.CutRange
namespace Go.Proofs.Ytcgbbjlcijhcnaa
set_option linter.unusedSimpArgs false
set_option linter.unusedVariables false
set_option linter.unnecessarySimpa false
open Go.RowKit Go.ChangeShapes Go.WideShapes Go.ChangeAt Go.Joins

theorem slice_lo (a : Option Addr) (n m k c : Nat) (r : Int) (hr : (k : Int) = r) (hk : k < n) (hm : n - k = m) (hc : n ≤ c) (b o : Nat) (ha : a = some ⟨b, o, none⟩) (W : World) : (Instr.slice 24 (.slice a n c) (some (.int .i64 r)) none none).run Try.prog W = .ok (.slice (some ⟨b, o + k, none⟩) m (c - k)) W := by
  subst hr hm ha
  have h := run_slice_l (P := Try.prog) W 24 (some ⟨b, o, none⟩) n c (by kernel_rfl) .i64 (k : Int) (by omega) (by omega)
  have hz : (sizeOf (Try.prog.elem 24)).run Try.prog W = .ok 1 W := by kernel_rfl
  rw [h, hz]
  have hne : ¬ c - k = 0 := by omega
  have hne2 : ¬ c = k := by omega
  by_cases hk0 : k = 0 <;> simp [Result.andThen, sliced, Addr.add, hne, hne2, hk0] <;> omega
theorem slice_hi (a : Option Addr) (n m c : Nat) (r : Int) (hr : (m : Int) = r) (hk : m ≤ n) (hc : n ≤ c) (b o : Nat) (ha : a = some ⟨b, o, none⟩) (W : World) : (Instr.slice 24 (.slice a n c) none (some (.int .i64 r)) none).run Try.prog W = .ok (.slice (some ⟨b, o, none⟩) m c) W := by
  subst hr ha
  have h := run_slice_h (P := Try.prog) W 24 (some ⟨b, o, none⟩) n c (by kernel_rfl) .i64 (m : Int) (by omega) (by omega)
  have hz : (sizeOf (Try.prog.elem 24)).run Try.prog W = .ok 1 W := by kernel_rfl
  rw [h, hz]
  simp [Result.andThen, sliced, Addr.add]

theorem addr_add (b o j : Nat) : (⟨b, o, none⟩ : Addr).add j = ⟨b, o + j, none⟩ := by
  by_cases h : j = 0 <;> simp [Addr.add, h]
theorem getElem?_front {α : Type} {l m : List α} {j : Nat} {u : α} (h : l[j]? = some u) : (l ++ m)[j]? = some u := by
  obtain ⟨hj, rfl⟩ := List.getElem?_eq_some_iff.1 h
  rw [List.getElem?_append_left hj]; exact List.getElem?_eq_getElem hj

set_option maxRecDepth 100000 in
set_option maxHeartbeats 8000000 in
theorem turned_c (r : R) (zs xs ys : List Int) (s0 s1 pl : Int) (hz : zs = xs ++ ys) (hx : (xs.length : Int) = r.pits) (hy : ys.length = xs.length) (h1 : 1 ≤ xs.length) (hm : xs.length ≤ 1000) (hpl : 0 ≤ pl ∧ pl ≤ 1) (pa sa : Option Addr) (pc sc : Nat) (w : World) (hp : Ints w pa zs) (hs : Ints w sa [s0, s1]) (hc : zs.length ≤ pc) (hcm : pc ≤ maxLen) :
    Calls Try.prog 94 #[r.val, P.val ⟨zs, [s0, s1], pl⟩ pa pc sa sc] w (PosRes w ⟨ys ++ xs, [s1, s0], 1 - pl⟩) := by
  obtain ⟨i0, hi, hz0, hz1, hz2⟩ := info_parts infoI
  have hlz : zs.length = xs.length + ys.length := by rw [hz]; simp
  obtain ⟨pb, po, rfl, hpb, hpc⟩ := Row.at hp (by simp; omega)
  obtain ⟨sb, so, rfl, hsb, hsc⟩ := Row.at hs (by simp)
  have hwr : IntKind.i64.wrap (1 - pl) = 1 - pl := IntWalk.i64_in _ (by omega)
  have hsl1 := slice_lo (some ⟨pb, po, none⟩) zs.length ys.length xs.length pc r.pits hx (by omega) (by omega) hc pb po rfl
  have hsl2 := slice_hi (some ⟨pb, po, none⟩) zs.length xs.length pc r.pits hx (by omega) hc pb po rfl
  have F0 := (((Fr.start w).alloc r.cells 31).alloc #[.slice (some ⟨pb, po, none⟩) zs.length pc, .slice (some ⟨sb, so, none⟩) 2 sc, .int .i64 pl] 28).allocF #[.slice none 0 0, .slice none 0 0, .int .i64 0] 28
  simp only [World.size_alloc] at F0
  have r0 := (R.boxc (F0.at 2 rfl)).1
  obtain ⟨p0, p1, p2⟩ := (⟨F0.at 1 rfl 0 _ rfl, F0.at 1 rfl 1 _ rfl, F0.at 1 rfl 2 _ rfl⟩ : _ ∧ _ ∧ _)
  obtain ⟨bx, bf⟩ := F0.at 0 rfl
  obtain ⟨q0, q1, q2⟩ := (⟨bx 0 _ rfl, bx 1 _ rfl, bx 2 _ rfl⟩ : _ ∧ _ ∧ _)
  have B0 := F0.below
  have hsz : (((w.alloc (.cells r.cells 31)).alloc (.cells #[.slice (some ⟨pb, po, none⟩) zs.length pc, .slice (some ⟨sb, so, none⟩) 2 sc, .int .i64 pl] 28)).alloc (.cells #[.slice none 0 0, .slice none 0 0, .int .i64 0] 28)).heap.size = w.heap.size + 1 + 1 + 1 := by simp
  have hpc0 : ∀ (j : Nat) v, (zs.map (Value.int .i64))[j]? = some v → (((w.alloc (.cells r.cells 31)).alloc (.cells #[.slice (some ⟨pb, po, none⟩) zs.length pc, .slice (some ⟨sb, so, none⟩) 2 sc, .int .i64 pl] 28)).alloc (.cells #[.slice none 0 0, .slice none 0 0, .int .i64 0] 28)).cell? ⟨pb, po + j, none⟩ = some v := fun j v hv => ((bcell B0).1 _ _ hpb).trans (hpc j v hv)
  have hs00 := ((bcell B0).1 _ _ hsb).trans (hsc 0 _ rfl)
  have hs10 := ((bcell B0).1 _ _ hsb).trans (hsc 1 _ rfl)
  have HF := Lib.hid (⟨hpb, hsb, B0⟩ : _ ∧ _ ∧ _)
  have HPC := Lib.hid hpc0
  have HROW : Hid (Ints _ (some ⟨pb, po + xs.length, none⟩) ys) := fun j v hv => ⟨pb, po + xs.length, rfl, by rw [Nat.add_assoc]; exact hpc0 (xs.length + j) v (by rw [hz, List.map_append, List.getElem?_append_right (by simp)]; simpa using hv)⟩
  have HL : Hid (1 ≤ xs.length ∧ xs.length ≤ 1000 ∧ ys.length = xs.length ∧ zs = xs ++ ys) := ⟨h1, hm, hy, hz⟩
  clear hp hs hpc hsc F0 bx B0 hpc0 h1 hm hy hx hlz hc hcm hz
  go_enter Try.func94, Try.ntmps94
  go_wp2_with fail
  simp only [P.cells, R.cells] at *
  generalize hXd : (((w.alloc (.cells #[.int .i64 r.pits, .int .i64 r.seeds, .bool r.stores, .bool r.skip, .bool r.relay, .bool r.feed, .bool r.again, .int .i64 r.capture, .int .i64 r.slam] 31)).alloc (.cells #[.slice (some ⟨pb, po, none⟩) zs.length pc, .slice (some ⟨sb, so, none⟩) 2 sc, .int .i64 pl] 28)).alloc (.cells #[.slice none 0 0, .slice none 0 0, .int .i64 0] 28)) = X at *
  have HKP : Hid (∀ W : World, (∀ o, W.cell? ⟨w.heap.size, o, none⟩ = X.cell? ⟨w.heap.size, o, none⟩) → (∀ o, W.cell? ⟨w.heap.size + 1, o, none⟩ = X.cell? ⟨w.heap.size + 1, o, none⟩) → (W.cell? ⟨w.heap.size, 0, none⟩ = some (.int .i64 r.pits) ∧ W.cell? ⟨w.heap.size + 1, 0, none⟩ = some (.slice (some ⟨pb, po, none⟩) zs.length pc))) := fun W H1 H2 => ⟨(H1 _).trans r0, (H2 _).trans p0⟩
  clear r0 p0
  refine heldH (S := fun W => W.cell? ⟨w.heap.size, 0, none⟩ = some (.int .i64 r.pits) ∧ W.cell? ⟨w.heap.size + 1, 0, none⟩ = some (.slice (some ⟨pb, po, none⟩) zs.length pc)) (n := 13) (listed := #[false, false, false, false, false, false, false, false, false, false, false, false, false]) (by kernel_rfl) (by rfl) (by rfl) ?_ (fun hHeld => ?_)
  (focus ((try dsimp only); (first | done | ((first | exact HKP.out _ (fun o => hcB _ _ (by omega)) (fun o => hcB _ _ (by omega)) | exact HKP.out _ (fun o => hcA _ _ (by omega)) (fun o => hcA _ _ (by omega)) | exact HKP.out _ (fun o => rfl) (fun o => rfl)); done))))
  (refine takeH (i := 0) (v := ?_) (by decide +kernel) (by decide +kernel) (by kernel_rfl) (by rfl) (by exact fun _ _ _ h => h) (by rfl) ?_ (by assumption) ?_); rotate_left; (focus (intro w hSw; (try dsimp only at hSw); go_simp; (try with_reducible rfl); done)); (try simp only [Act.put, List.setIfInBounds_toArray, List.set_cons_zero, List.set_cons_succ])
  (refine takeH (i := 1) (v := ?_) (by decide +kernel) (by decide +kernel) (by kernel_rfl) (by rfl) (by exact fun _ _ _ h => h) (by rfl) ?_ (by assumption) ?_); rotate_left; (focus (intro w hSw; (try dsimp only at hSw); go_simp; (try with_reducible rfl); done)); (try simp only [Act.put, List.setIfInBounds_toArray, List.set_cons_zero, List.set_cons_succ])
  (refine takeH (i := 2) (v := ?_) (by decide +kernel) (by decide +kernel) (by kernel_rfl) (by rfl) (by exact fun _ _ _ h => h) (by rfl) ?_ (by assumption) ?_); rotate_left; (focus (intro w hSw; (try dsimp only at hSw); go_simp; (try with_reducible rfl); done)); (try simp only [Act.put, List.setIfInBounds_toArray, List.set_cons_zero, List.set_cons_succ])
  (refine takeH (i := 3) (v := ?_) (by decide +kernel) (by decide +kernel) (by kernel_rfl) (by rfl) (by exact fun _ _ _ h => h) (by rfl) ?_ (by assumption) ?_); rotate_left; (focus (intro w hSw; (try dsimp only at hSw); go_simp; (try with_reducible rfl); done)); (try simp only [Act.put, List.setIfInBounds_toArray, List.set_cons_zero, List.set_cons_succ])
  (refine takeH (i := 4) (v := ?_) (by decide +kernel) (by decide +kernel) (by kernel_rfl) (by rfl) (by exact fun _ _ _ h => h) (by rfl) ?_ (by assumption) ?_); rotate_left; (focus (intro w hSw; (try dsimp only at hSw); go_simp; (try with_reducible rfl); done)); (try simp only [Act.put, List.setIfInBounds_toArray, List.set_cons_zero, List.set_cons_succ])
  (refine takeH (i := 6) (v := ?_) (by decide +kernel) (by decide +kernel) (by kernel_rfl) (by rfl) (by exact fun _ _ _ h => h) (by rfl) ?_ (by assumption) ?_); rotate_left; (focus (intro w hSw; (try dsimp only at hSw); go_simp; (try with_reducible rfl); done)); (try simp only [Act.put, List.setIfInBounds_toArray, List.set_cons_zero, List.set_cons_succ])
  (refine takeH (i := 7) (v := ?_) (by decide +kernel) (by decide +kernel) (by kernel_rfl) (by rfl) (by exact fun _ _ _ h => h) (by rfl) ?_ (by assumption) ?_); rotate_left; (focus (intro w hSw; (try dsimp only at hSw); go_simp; (try with_reducible rfl); done)); (try simp only [Act.put, List.setIfInBounds_toArray, List.set_cons_zero, List.set_cons_succ])
  (refine takeH (i := 8) (v := ?_) (by decide +kernel) (by decide +kernel) (by kernel_rfl) (by rfl) (by exact fun _ _ _ h => h) (by rfl) ?_ (by assumption) ?_); rotate_left; (focus (intro w hSw; (try dsimp only at hSw); go_simp; (try with_reducible rfl); done)); (try simp only [Act.put, List.setIfInBounds_toArray, List.set_cons_zero, List.set_cons_succ])
  (refine takeH (i := 9) (v := ?_) (by decide +kernel) (by decide +kernel) (by kernel_rfl) (by rfl) (by exact fun _ _ _ h => h) (by rfl) ?_ (by assumption) ?_); rotate_left; (focus (intro w hSw; (try dsimp only at hSw); go_simp; (try with_reducible rfl); done)); (try simp only [Act.put, List.setIfInBounds_toArray, List.set_cons_zero, List.set_cons_succ])
  (refine takeH (i := 10) (v := ?_) (by decide +kernel) (by decide +kernel) (by kernel_rfl) (by rfl) (by exact fun _ _ _ h => h) (by rfl) ?_ (by assumption) ?_); rotate_left; (focus (intro w hSw; (try dsimp only at hSw); go_simp; (try with_reducible rfl); done)); (try simp only [Act.put, List.setIfInBounds_toArray, List.set_cons_zero, List.set_cons_succ])
  refine nextH (i := 5) (by decide +kernel) (by rfl) (by rfl) (fun K hK => ?_)
  (first | ((refine wp_append_lies _ _ _ 24 rfl X.heap.size 2 i0 _ 1 8 Try.underlying24 hi hz0 hz1 hz2 rfl (by decide) _ _ _ rfl HO1.out ⟨pb, po, none⟩ xs.length pc (xs.map (Value.int .i64)) rfl (by simp) (by intro j u hu; have h := (HC1.out.1 pb (po + j) (by have := HF.out.1; omega)).trans (HPC.out j u (by rw [HL.out.2.2.2, List.map_append]; exact getElem?_front hu)); rw [addr_add]; exact h) (by intro u hu; simp at hu; obtain ⟨_, _, rfl⟩ := hu; rfl) (by have := HL.out; omega) (by have := HL.out; unfold maxLen; omega) (by have := HL.out; omega) (by have := HB1.out.size; omega) _ rfl ?_); (intro g cap w2 hown2 hg2 hat2 hlt2); (have hB2 : Below X.heap.size X w2 := below_grown HB1.out hg2 (fun k hk => (HO1.out.lt k hk).1)); (have hcB : ∀ b o, b < w.heap.size + 1 + 1 + 1 → w2.cell? ⟨b, o, none⟩ = X.cell? ⟨b, o, none⟩ := fun b o h => (bcell hB2).1 b o (by omega))) | (go_simp; (first | (go_at_call 117; (refine (copyNumbers_c (some ⟨pb, po + xs.length, none⟩) (pc - xs.length) ys _ (HROW.out.below (Below.refl X.heap.size X).drew (Nat.le_refl _)) (by have := HL.out; omega)).mono ?_); (rintro e w1 ⟨a', c', rfl, ho1, hb1⟩); (have HB1 : Hid (Below X.heap.size X w1) := below_next (Below.refl X.heap.size X).drew hb1); (have HO1 : Hid (OwnI w1 X.heap.size a' c' ys) := ho1); (have HC1 : Hid ((∀ b o, b < X.heap.size → w1.cell? ⟨b, o, none⟩ = X.cell? ⟨b, o, none⟩) ∧ True) := ⟨(bcell HB1.out).1, trivial⟩); (have hcA : ∀ b o, b < w.heap.size + 1 + 1 + 1 → w1.cell? ⟨b, o, none⟩ = X.cell? ⟨b, o, none⟩ := fun b o h => (bcell HB1.out).1 b o (by omega)); clear hb1 ho1))))
  refine hK.out _ _ ?_ (fun hHeld' => ?_)
  (focus ((try dsimp only); (first | done | ((first | exact HKP.out _ (fun o => hcB _ _ (by omega)) (fun o => hcB _ _ (by omega)) | exact HKP.out _ (fun o => hcA _ _ (by omega)) (fun o => hcA _ _ (by omega)) | exact HKP.out _ (fun o => rfl) (fun o => rfl)); done))))
  clear hK K hHeld
  have hHeld := hHeld'
  clear hHeld'
  (try simp only [Act.put, List.setIfInBounds_toArray, List.set_cons_zero, List.set_cons_succ])
  refine nextH (i := 11) (by decide +kernel) (by rfl) (by rfl) (fun K hK => ?_)
  (first | ((refine wp_append_lies _ _ _ 24 rfl X.heap.size 2 i0 _ 1 8 Try.underlying24 hi hz0 hz1 hz2 rfl (by decide) _ _ _ rfl HO1.out ⟨pb, po, none⟩ xs.length pc (xs.map (Value.int .i64)) rfl (by simp) (by intro j u hu; have h := (HC1.out.1 pb (po + j) (by have := HF.out.1; omega)).trans (HPC.out j u (by rw [HL.out.2.2.2, List.map_append]; exact getElem?_front hu)); rw [addr_add]; exact h) (by intro u hu; simp at hu; obtain ⟨_, _, rfl⟩ := hu; rfl) (by have := HL.out; omega) (by have := HL.out; unfold maxLen; omega) (by have := HL.out; omega) (by have := HB1.out.size; omega) _ rfl ?_); (intro g cap w2 hown2 hg2 hat2 hlt2); (have hB2 : Below X.heap.size X w2 := below_grown HB1.out hg2 (fun k hk => (HO1.out.lt k hk).1)); (have hcB : ∀ b o, b < w.heap.size + 1 + 1 + 1 → w2.cell? ⟨b, o, none⟩ = X.cell? ⟨b, o, none⟩ := fun b o h => (bcell hB2).1 b o (by omega))) | (go_simp; (first | (go_at_call 117; (refine (copyNumbers_c (some ⟨pb, po + xs.length, none⟩) (pc - xs.length) ys _ (HROW.out.below (Below.refl X.heap.size X).drew (Nat.le_refl _)) (by have := HL.out; omega)).mono ?_); (rintro e w1 ⟨a', c', rfl, ho1, hb1⟩); (have HB1 : Hid (Below X.heap.size X w1) := below_next (Below.refl X.heap.size X).drew hb1); (have HO1 : Hid (OwnI w1 X.heap.size a' c' ys) := ho1); (have HC1 : Hid ((∀ b o, b < X.heap.size → w1.cell? ⟨b, o, none⟩ = X.cell? ⟨b, o, none⟩) ∧ True) := ⟨(bcell HB1.out).1, trivial⟩); (have hcA : ∀ b o, b < w.heap.size + 1 + 1 + 1 → w1.cell? ⟨b, o, none⟩ = X.cell? ⟨b, o, none⟩ := fun b o h => (bcell HB1.out).1 b o (by omega)); clear hb1 ho1))))
  refine hK.out _ _ ?_ (fun hHeld' => ?_)
  (focus ((try dsimp only); (first | done | ((first | exact HKP.out _ (fun o => hcB _ _ (by omega)) (fun o => hcB _ _ (by omega)) | exact HKP.out _ (fun o => hcA _ _ (by omega)) (fun o => hcA _ _ (by omega)) | exact HKP.out _ (fun o => rfl) (fun o => rfl)); done))))
  clear hK K hHeld
  have hHeld := hHeld'
  clear hHeld'
  (try simp only [Act.put, List.setIfInBounds_toArray, List.set_cons_zero, List.set_cons_succ])
  (refine takeH (i := 12) (v := ?_) (by decide +kernel) (by decide +kernel) (by kernel_rfl) (by rfl) (by exact fun _ _ _ h => h) (by rfl) ?_ (by assumption) ?_); rotate_left; (focus (intro w hSw; (try dsimp only at hSw); go_simp; (try with_reducible rfl); done)); (try simp only [Act.put, List.setIfInBounds_toArray, List.set_cons_zero, List.set_cons_succ])
  refine wpAnyH_done (by decide +kernel) ?_ _
  have g1 := (hcB (w.heap.size + 1) 1 (by omega)).trans p1
  have g2 := (hcB (w.heap.size + 1) 2 (by omega)).trans p2
  have k0 := (hcB (w.heap.size + 1 + 1) 0 (by omega)).trans q0
  have k1 := (hcB (w.heap.size + 1 + 1) 1 (by omega)).trans q1
  have k2 := (hcB (w.heap.size + 1 + 1) 2 (by omega)).trans q2
  have kf : ∀ o, w2.frozen? ⟨w.heap.size + 1 + 1, o, none⟩ = false := fun o => ((bcell hB2).2 _ o (by omega)).trans (bf o)
  have t0 : w2.cell? ⟨sb, so, none⟩ = some (.int .i64 s0) := (hcB sb so (by omega)).trans hs00
  have t1 : w2.cell? ⟨sb, so + 1, none⟩ = some (.int .i64 s1) := (hcB sb (so + 1) (by omega)).trans hs10
  have hz2s : w.heap.size + 1 + 1 + 1 ≤ w2.heap.size := by have := hB2.size; omega
  have HB2 := Lib.hid (below_next HF.out.2.2 hB2)
  have HO2 : Hid (OwnI w2 (w.heap.size + 1 + 1 + 1) (some ⟨g, 0, none⟩) cap (ys ++ xs)) := by
    unfold Hid OwnI
    rw [List.length_append, List.map_append, ← hsz]; exact hown2
  have HK2 : Hid (∀ W : World, (∀ b o, b < w.heap.size + 1 + 1 + 1 → ¬ b = w.heap.size + 1 + 1 → W.cell? ⟨b, o, none⟩ = w2.cell? ⟨b, o, none⟩) → (W.cell? ⟨w.heap.size + 1, 1, none⟩ = some (.slice (some ⟨sb, so, none⟩) 2 sc) ∧ W.cell? ⟨w.heap.size + 1, 2, none⟩ = some (.int .i64 pl) ∧ W.cell? ⟨sb, so, none⟩ = some (.int .i64 s0) ∧ W.cell? ⟨sb, so + 1, none⟩ = some (.int .i64 s1))) := fun W H => ⟨(H _ _ (by omega) (by omega)).trans g1, (H _ _ (by omega) (by omega)).trans g2, (H _ _ (by omega) (by omega)).trans t0, (H _ _ (by omega) (by omega)).trans t1⟩
  clear g1 g2 t0 t1 hcB hcA hown2 hg2 hat2 hB2 HKP HC1 HO1 HB1 p1 p2 q0 q1 q2 bf hs00 hs10 hsl1 hsl2 hHeld HPC HROW HF hXd
  have zC : w.heap.size + 1 + 1 < w2.heap.size := by omega
  have zD : w.heap.size + 1 < w2.heap.size := by omega
  have zE : w.heap.size < w2.heap.size := by omega
  go_wp2_with fail
  refine heldH (S := fun W => W.cell? ⟨w.heap.size + 1, 1, none⟩ = some (.slice (some ⟨sb, so, none⟩) 2 sc) ∧ W.cell? ⟨w.heap.size + 1, 2, none⟩ = some (.int .i64 pl) ∧ W.cell? ⟨sb, so, none⟩ = some (.int .i64 s0) ∧ W.cell? ⟨sb, so + 1, none⟩ = some (.int .i64 s1)) (n := 15) (listed := #[false, false, false, false, false, false, false, false, false, false, false, false, false, false, false]) (by kernel_rfl) (by rfl) (by rfl) ?_ (fun hHeld => ?_)
  (focus ((try dsimp only); (first | done | ((first | exact HK2.out _ (fun b o h hn => rfl) | (refine HK2.out _ (fun b o h hn => ?_); (have hb : ¬ b = w2.heap.size := by omega); (have hb2 : b < w2.heap.size := by omega); simp [go_sem, hb, hb2, hn]; done)); done))))
  (refine takeH (i := 0) (v := ?_) (by decide +kernel) (by decide +kernel) (by kernel_rfl) (by rfl) (by exact fun _ _ _ h => h) (by rfl) ?_ (by assumption) ?_); rotate_left; (focus (intro w hSw; (try dsimp only at hSw); go_simp; (try with_reducible rfl); done)); (try simp only [Act.put, List.setIfInBounds_toArray, List.set_cons_zero, List.set_cons_succ])
  (refine takeH (i := 1) (v := ?_) (by decide +kernel) (by decide +kernel) (by kernel_rfl) (by rfl) (by exact fun _ _ _ h => h) (by rfl) ?_ (by assumption) ?_); rotate_left; (focus (intro w hSw; (try dsimp only at hSw); go_simp; (try with_reducible rfl); done)); (try simp only [Act.put, List.setIfInBounds_toArray, List.set_cons_zero, List.set_cons_succ])
  (refine takeH (i := 2) (v := ?_) (by decide +kernel) (by decide +kernel) (by kernel_rfl) (by rfl) (by exact fun _ _ _ h => h) (by rfl) ?_ (by assumption) ?_); rotate_left; (focus (intro w hSw; (try dsimp only at hSw); go_simp; (try with_reducible rfl); done)); (try simp only [Act.put, List.setIfInBounds_toArray, List.set_cons_zero, List.set_cons_succ])
  (refine takeH (i := 3) (v := ?_) (by decide +kernel) (by decide +kernel) (by kernel_rfl) (by rfl) (by exact fun _ _ _ h => h) (by rfl) ?_ (by assumption) ?_); rotate_left; (focus (intro w hSw; (try dsimp only at hSw); go_simp; (try with_reducible rfl); done)); (try simp only [Act.put, List.setIfInBounds_toArray, List.set_cons_zero, List.set_cons_succ])
  (refine takeH (i := 4) (v := ?_) (by decide +kernel) (by decide +kernel) (by kernel_rfl) (by rfl) (by exact fun _ _ _ h => h) (by rfl) ?_ (by assumption) ?_); rotate_left; (focus (intro w hSw; (try dsimp only at hSw); go_simp; (try with_reducible rfl); done)); (try simp only [Act.put, List.setIfInBounds_toArray, List.set_cons_zero, List.set_cons_succ])
  (refine takeH (i := 5) (v := ?_) (by decide +kernel) (by decide +kernel) (by kernel_rfl) (by rfl) (by exact fun _ _ _ h => h) (by rfl) ?_ (by assumption) ?_); rotate_left; (focus (intro w hSw; (try dsimp only at hSw); go_simp; (try with_reducible rfl); done)); (try simp only [Act.put, List.setIfInBounds_toArray, List.set_cons_zero, List.set_cons_succ])
  (refine takeH (i := 6) (v := ?_) (by decide +kernel) (by decide +kernel) (by kernel_rfl) (by rfl) (by exact fun _ _ _ h => h) (by rfl) ?_ (by assumption) ?_); rotate_left; (focus (intro w hSw; (try dsimp only at hSw); go_simp; (try with_reducible rfl); done)); (try simp only [Act.put, List.setIfInBounds_toArray, List.set_cons_zero, List.set_cons_succ])
  (refine takeH (i := 7) (v := ?_) (by decide +kernel) (by decide +kernel) (by kernel_rfl) (by rfl) (by exact fun _ _ _ h => h) (by rfl) ?_ (by assumption) ?_); rotate_left; (focus (intro w hSw; (try dsimp only at hSw); go_simp; (try with_reducible rfl); done)); (try simp only [Act.put, List.setIfInBounds_toArray, List.set_cons_zero, List.set_cons_succ])
  (refine takeH (i := 8) (v := ?_) (by decide +kernel) (by decide +kernel) (by kernel_rfl) (by rfl) (by exact fun _ _ _ h => h) (by rfl) ?_ (by assumption) ?_); rotate_left; (focus (intro w hSw; (try dsimp only at hSw); go_simp; (try with_reducible rfl); done)); (try simp only [Act.put, List.setIfInBounds_toArray, List.set_cons_zero, List.set_cons_succ])
  (refine takeH (i := 10) (v := ?_) (by decide +kernel) (by decide +kernel) (by kernel_rfl) (by rfl) (by exact fun _ _ _ h => h) (by rfl) ?_ (by assumption) ?_); rotate_left; (focus (intro w hSw; (try dsimp only at hSw); go_simp; (try with_reducible rfl); done)); (try simp only [Act.put, List.setIfInBounds_toArray, List.set_cons_zero, List.set_cons_succ])
  (refine takeH (i := 11) (v := ?_) (by decide +kernel) (by decide +kernel) (by kernel_rfl) (by rfl) (by exact fun _ _ _ h => h) (by rfl) ?_ (by assumption) ?_); rotate_left; (focus (intro w hSw; (try dsimp only at hSw); go_simp; (try with_reducible rfl); done)); (try simp only [Act.put, List.setIfInBounds_toArray, List.set_cons_zero, List.set_cons_succ])
  (refine takeH (i := 12) (v := ?_) (by decide +kernel) (by decide +kernel) (by kernel_rfl) (by rfl) (by exact fun _ _ _ h => h) (by rfl) ?_ (by assumption) ?_); rotate_left; (focus (intro w hSw; (try dsimp only at hSw); go_simp; (try with_reducible rfl); done)); (try simp only [Act.put, List.setIfInBounds_toArray, List.set_cons_zero, List.set_cons_succ])
  refine nextH (i := 9) (by decide +kernel) (by rfl) (by rfl) (fun K hK => ?_)
  go_simp
  (skip)
  refine hK.out _ _ ?_ (fun hHeld' => ?_)
  (focus ((try dsimp only); (first | done | ((first | exact HK2.out _ (fun b o h hn => rfl) | (refine HK2.out _ (fun b o h hn => ?_); (have hb : ¬ b = w2.heap.size := by omega); (have hb2 : b < w2.heap.size := by omega); simp [go_sem, hb, hb2, hn]; done)); done))))
  clear hK K hHeld
  have hHeld := hHeld'
  clear hHeld'
  (try simp only [Act.put, List.setIfInBounds_toArray, List.set_cons_zero, List.set_cons_succ])
  (refine takeH (i := 13) (v := ?_) (by decide +kernel) (by decide +kernel) (by kernel_rfl) (by rfl) (by exact fun _ _ _ h => h) (by rfl) ?_ (by assumption) ?_); rotate_left; (focus (intro w hSw; (try dsimp only at hSw); go_simp; (try with_reducible rfl); done)); (try simp only [Act.put, List.setIfInBounds_toArray, List.set_cons_zero, List.set_cons_succ])
  refine nextH (i := 14) (by decide +kernel) (by rfl) (by rfl) (fun K hK => ?_)
  go_simp
  (skip)
  refine hK.out _ _ ?_ (fun hHeld' => ?_)
  (focus ((try dsimp only); (first | done | ((first | exact HK2.out _ (fun b o h hn => rfl) | (refine HK2.out _ (fun b o h hn => ?_); (have hb : ¬ b = w2.heap.size := by omega); (have hb2 : b < w2.heap.size := by omega); simp [go_sem, hb, hb2, hn]; done)); done))))
  clear hK K hHeld
  have hHeld := hHeld'
  clear hHeld'
  (try simp only [Act.put, List.setIfInBounds_toArray, List.set_cons_zero, List.set_cons_succ])
  refine wpAnyH_done (by decide +kernel) ?_ _
  clear hHeld
  go_wp2
  refine bodyPost_ret (v := P.val ⟨ys ++ xs, [s1, s0], 1 - pl⟩ (some ⟨g, 0, none⟩) cap (some ⟨w2.heap.size, 0, none⟩) 2) (by simp [results, Try.results94, go_sem, k0, k1, k2, kf, zC, zD, zE, P.val, P.cells]) rfl ?_
  refine ⟨some ⟨g, 0, none⟩, cap, some ⟨w2.heap.size, 0, none⟩, 2, rfl, ⟨?_, ?_, ?_⟩, ?_⟩
  · have k9 := HO2.out
    dsimp only
    refine ownsRow_le (base := w.heap.size + 1 + 1 + 1) ?_ (by omega)
    repeat (first | (with_reducible exact k9) | ((with_reducible refine ownsRow_setCell_below ?_ ?_ _); rotate_left; (simp <;> omega)) | (with_reducible refine World.ownsRow.alloc ?_ _) | (with_reducible refine World.ownsRow.drew ?_))
  · have k9 := World.ownsRow_lit (base := w.heap.size + 1 + 1 + 1) (e := 2) (size := 1) (((w2.setCell ⟨w.heap.size + 1 + 1, 0, none⟩ (.slice (some ⟨g, 0, none⟩) (ys.length + xs.length) cap)).setCell ⟨w.heap.size + 1 + 1, 1, none⟩ (.slice (some ⟨w2.heap.size, 0, none⟩) 2 2)).setCell ⟨w.heap.size + 1 + 1, 2, none⟩ (.int .i64 (1 - pl))) #[.int .i64 s1, .int .i64 s0] 2 (by simp; omega) (by unfold maxLen; omega) rfl
    simp only [World.size_setCell] at k9
    exact ownsRow_le k9 (by omega)
  · refine .inr (fun e => ?_)
    have h1 := (HO2.out.lt g rfl).2
    simp [Value.ownBlock] at e
    omega
  · have k9 := HB2.out
    repeat (first | (with_reducible exact k9) | ((with_reducible refine Below.setCell ?_ ?_ _); rotate_left; (simp <;> omega)) | ((with_reducible refine Below.alloc ?_ ?_ _); rotate_left; (first | omega | (simp <;> omega))) | (with_reducible refine Below.drew ?_))

section
variable {P : Program} {l : List Oper} {Q : Exit → Act → World → Prop} {md : Region.Mode} {S : World → Prop}
/-- two operations may come up, both wanted -/
theorem bothH {i j : Nat} {oi oj : Oper} {p q : List Oper} {fuel : Nat} {listed : Array Bool} {a : Act} {w : World}
    (hr : Region.ready md l.toArray listed = [i, j]) (hi : l.drop i = oi :: p) (hj : l.drop j = oj :: q) (hwi : Region.wanted oi (yielded l.toArray a.tmps) = true) (hwj : Region.wanted oj (yielded l.toArray a.tmps) = true)
    (h1 : ∀ K' : Act → World → Prop, Shut (∀ a w, S w → (S w → wpAnyH P md l.toArray Q S fuel (listed.setIfInBounds i true) a w) → K' a w) → Oper.wp P oi a w K' Q)
    (h2 : ∀ K' : Act → World → Prop, Shut (∀ a w, S w → (S w → wpAnyH P md l.toArray Q S fuel (listed.setIfInBounds j true) a w) → K' a w) → Oper.wp P oj a w K' Q) :
    wpAnyH P md l.toArray Q S (fuel + 1) listed a w :=
  wpAnyH_ready hr (by simp) (AllReadyH.cons (drop_aget hi) (fun K hK => by rw [if_pos hwi]; exact h1 K hK) (AllReadyH.cons (drop_aget hj) (fun K hK => by rw [if_pos hwj]; exact h2 K hK) AllReadyH.nil))
end

set_option maxRecDepth 100000 in
set_option maxHeartbeats 8000000 in
theorem l04Turn_c (rb ro qb qo : Nat) (r : R) (zs xs ys : List Int) (s0 s1 pl : Int) (hz : zs = xs ++ ys) (hx : (xs.length : Int) = r.pits) (hy : ys.length = xs.length) (h1 : 1 ≤ xs.length) (hm : xs.length ≤ 1000) (hpl : 0 ≤ pl ∧ pl ≤ 1) (pa sa : Option Addr) (pc sc : Nat) (w : World) (hat : R.At w rb ro r) (pat : P.At w qb qo ⟨zs, [s0, s1], pl⟩ pa pc sa sc) (hp : Ints w pa zs) (hs : Ints w sa [s0, s1]) (hc : zs.length ≤ pc) (hcm : pc ≤ maxLen) :
    Calls Try.prog 86 #[.pointer (some ⟨rb, ro, none⟩), .pointer (some ⟨qb, qo, none⟩)] w (PosRes w ⟨ys ++ xs, [s1, s0], 1 - pl⟩) := by
  obtain ⟨i0, hi, hz0, hz1, hz2⟩ := info_parts infoI
  have hlz : zs.length = xs.length + ys.length := by rw [hz]; simp
  obtain ⟨pb, po, rfl, hpb, hpc⟩ := Row.at hp (by simp; omega)
  obtain ⟨sb, so, rfl, hsb, hsc⟩ := Row.at hs (by simp)
  have hwr : IntKind.i64.wrap (1 - pl) = 1 - pl := IntWalk.i64_in _ (by omega)
  have hsl1 := slice_lo (some ⟨pb, po, none⟩) zs.length ys.length xs.length pc r.pits hx (by omega) (by omega) hc pb po rfl
  have hsl2 := slice_hi (some ⟨pb, po, none⟩) zs.length xs.length pc r.pits hx (by omega) hc pb po rfl
  have hrb : rb < w.heap.size := World.block_lt_of_cell? w _ hat.c0
  have hqb : qb < w.heap.size := World.block_lt_of_cell? w _ pat.c0
  have B0 := below_alloc1 w (.cells #[.slice none 0 0, .slice none 0 0, .int .i64 0] 28)
  have q0 : (w.alloc (.cells #[.slice none 0 0, .slice none 0 0, .int .i64 0] 28)).cell? ⟨w.heap.size, 0, none⟩ = some (.slice none 0 0) := by simp [go_sem]
  have q1 : (w.alloc (.cells #[.slice none 0 0, .slice none 0 0, .int .i64 0] 28)).cell? ⟨w.heap.size, 1, none⟩ = some (.slice none 0 0) := by simp [go_sem]
  have q2 : (w.alloc (.cells #[.slice none 0 0, .slice none 0 0, .int .i64 0] 28)).cell? ⟨w.heap.size, 2, none⟩ = some (.int .i64 0) := by simp [go_sem]
  have bf : ∀ o, (w.alloc (.cells #[.slice none 0 0, .slice none 0 0, .int .i64 0] 28)).frozen? ⟨w.heap.size, o, none⟩ = false := by intro o; simp [go_sem]
  have hsz : (w.alloc (.cells #[.slice none 0 0, .slice none 0 0, .int .i64 0] 28)).heap.size = w.heap.size + 1 := by simp
  have r0 := ((bcell B0).1 _ _ hrb).trans hat.c0
  have p0 := ((bcell B0).1 _ _ hqb).trans pat.c0
  have p1 := ((bcell B0).1 _ _ hqb).trans pat.c1
  have p2 := ((bcell B0).1 _ _ hqb).trans pat.c2
  have hpc0 : ∀ (j : Nat) v, (zs.map (Value.int .i64))[j]? = some v → (w.alloc (.cells #[.slice none 0 0, .slice none 0 0, .int .i64 0] 28)).cell? ⟨pb, po + j, none⟩ = some v := fun j v hv => ((bcell B0).1 _ _ hpb).trans (hpc j v hv)
  have hs00 := ((bcell B0).1 _ _ hsb).trans (hsc 0 _ rfl)
  have hs10 := ((bcell B0).1 _ _ hsb).trans (hsc 1 _ rfl)
  have HF := Lib.hid (⟨hpb, hsb, hrb, hqb, B0⟩ : _ ∧ _ ∧ _ ∧ _ ∧ _)
  have HPC := Lib.hid hpc0
  have HROW : Hid (Ints _ (some ⟨pb, po + xs.length, none⟩) ys) := fun j v hv => ⟨pb, po + xs.length, rfl, by rw [Nat.add_assoc]; exact hpc0 (xs.length + j) v (by rw [hz, List.map_append, List.getElem?_append_right (by simp)]; simpa using hv)⟩
  have HL : Hid (1 ≤ xs.length ∧ xs.length ≤ 1000 ∧ ys.length = xs.length ∧ zs = xs ++ ys) := ⟨h1, hm, hy, hz⟩
  clear hp hs hpc hsc B0 hpc0 h1 hm hy hx hlz hc hcm hz hat pat
  go_enter Try.func86, Try.ntmps86
  go_wp2_with fail
  generalize hXd : (w.alloc (.cells #[.slice none 0 0, .slice none 0 0, .int .i64 0] 28)) = X at *
  have HKP : Hid (∀ W : World, (∀ b o, b < w.heap.size → W.cell? ⟨b, o, none⟩ = X.cell? ⟨b, o, none⟩) → (W.cell? ⟨rb, ro, none⟩ = some (.int .i64 r.pits) ∧ W.cell? ⟨qb, qo, none⟩ = some (.slice (some ⟨pb, po, none⟩) zs.length pc) ∧ W.cell? ⟨qb, qo + 1, none⟩ = some (.slice (some ⟨sb, so, none⟩) 2 sc) ∧ W.cell? ⟨qb, qo + 2, none⟩ = some (.int .i64 pl) ∧ W.cell? ⟨sb, so, none⟩ = some (.int .i64 s0) ∧ W.cell? ⟨sb, so + 1, none⟩ = some (.int .i64 s1))) := fun W H => ⟨(H _ _ hrb).trans r0, (H _ _ hqb).trans p0, (H _ _ hqb).trans p1, (H _ _ hqb).trans p2, (H _ _ hsb).trans hs00, (H _ _ hsb).trans hs10⟩
  clear r0 p0 p1 p2 hs00 hs10
  refine heldH (S := fun W => W.cell? ⟨rb, ro, none⟩ = some (.int .i64 r.pits) ∧ W.cell? ⟨qb, qo, none⟩ = some (.slice (some ⟨pb, po, none⟩) zs.length pc) ∧ W.cell? ⟨qb, qo + 1, none⟩ = some (.slice (some ⟨sb, so, none⟩) 2 sc) ∧ W.cell? ⟨qb, qo + 2, none⟩ = some (.int .i64 pl) ∧ W.cell? ⟨sb, so, none⟩ = some (.int .i64 s0) ∧ W.cell? ⟨sb, so + 1, none⟩ = some (.int .i64 s1)) (n := 11) (listed := #[false, false, false, false, false, false, false, false, false, false, false]) (by kernel_rfl) (by rfl) (by rfl) ?_ (fun hHeld => ?_)
  (focus ((try dsimp only); (first | done | ((first | exact HKP.out _ (fun b o h => hcA _ _ (by omega)) | exact HKP.out _ (fun b o h => rfl)); done))))
  (refine takeH (i := 0) (v := ?_) (by decide +kernel) (by decide +kernel) (by kernel_rfl) (by rfl) (by exact fun _ _ _ h => h) (by rfl) ?_ (by assumption) ?_); rotate_left; (focus (intro w hSw; (try dsimp only at hSw); go_simp; (try with_reducible rfl); done)); (try simp only [Act.put, List.setIfInBounds_toArray, List.set_cons_zero, List.set_cons_succ])
  (refine takeH (i := 1) (v := ?_) (by decide +kernel) (by decide +kernel) (by kernel_rfl) (by rfl) (by exact fun _ _ _ h => h) (by rfl) ?_ (by assumption) ?_); rotate_left; (focus (intro w hSw; (try dsimp only at hSw); go_simp; (try with_reducible rfl); done)); (try simp only [Act.put, List.setIfInBounds_toArray, List.set_cons_zero, List.set_cons_succ])
  (refine takeH (i := 2) (v := ?_) (by decide +kernel) (by decide +kernel) (by kernel_rfl) (by rfl) (by exact fun _ _ _ h => h) (by rfl) ?_ (by assumption) ?_); rotate_left; (focus (intro w hSw; (try dsimp only at hSw); go_simp; (try with_reducible rfl); done)); (try simp only [Act.put, List.setIfInBounds_toArray, List.set_cons_zero, List.set_cons_succ])
  (refine takeH (i := 3) (v := ?_) (by decide +kernel) (by decide +kernel) (by kernel_rfl) (by rfl) (by exact fun _ _ _ h => h) (by rfl) ?_ (by assumption) ?_); rotate_left; (focus (intro w hSw; (try dsimp only at hSw); go_simp; (try with_reducible rfl); done)); (try simp only [Act.put, List.setIfInBounds_toArray, List.set_cons_zero, List.set_cons_succ])
  (refine takeH (i := 4) (v := ?_) (by decide +kernel) (by decide +kernel) (by kernel_rfl) (by rfl) (by exact fun _ _ _ h => h) (by rfl) ?_ (by assumption) ?_); rotate_left; (focus (intro w hSw; (try dsimp only at hSw); go_simp; (try with_reducible rfl); done)); (try simp only [Act.put, List.setIfInBounds_toArray, List.set_cons_zero, List.set_cons_succ])
  (refine takeH (i := 5) (v := ?_) (by decide +kernel) (by decide +kernel) (by kernel_rfl) (by rfl) (by exact fun _ _ _ h => h) (by rfl) ?_ (by assumption) ?_); rotate_left; (focus (intro w hSw; (try dsimp only at hSw); go_simp; (try with_reducible rfl); done)); (try simp only [Act.put, List.setIfInBounds_toArray, List.set_cons_zero, List.set_cons_succ])
  (refine takeH (i := 6) (v := ?_) (by decide +kernel) (by decide +kernel) (by kernel_rfl) (by rfl) (by exact fun _ _ _ h => h) (by rfl) ?_ (by assumption) ?_); rotate_left; (focus (intro w hSw; (try dsimp only at hSw); go_simp; (try with_reducible rfl); done)); (try simp only [Act.put, List.setIfInBounds_toArray, List.set_cons_zero, List.set_cons_succ])
  (refine takeH (i := 7) (v := ?_) (by decide +kernel) (by decide +kernel) (by kernel_rfl) (by rfl) (by exact fun _ _ _ h => h) (by rfl) ?_ (by assumption) ?_); rotate_left; (focus (intro w hSw; (try dsimp only at hSw); go_simp; (try with_reducible rfl); done)); (try simp only [Act.put, List.setIfInBounds_toArray, List.set_cons_zero, List.set_cons_succ])
  (refine takeH (i := 8) (v := ?_) (by decide +kernel) (by decide +kernel) (by kernel_rfl) (by rfl) (by exact fun _ _ _ h => h) (by rfl) ?_ (by assumption) ?_); rotate_left; (focus (intro w hSw; (try dsimp only at hSw); go_simp; (try with_reducible rfl); done)); (try simp only [Act.put, List.setIfInBounds_toArray, List.set_cons_zero, List.set_cons_succ])
  refine nextH (i := 9) (by decide +kernel) (by rfl) (by rfl) (fun K hK => ?_)
  go_simp
  (first | (go_at_call 105; (refine (l00Own_c (some ⟨pb, po + xs.length, none⟩) (pc - xs.length) ys _ (HROW.out.below (Below.refl X.heap.size X).drew (Nat.le_refl _)) (by have := HL.out; omega)).mono ?_); (rintro e w1 ⟨a', c', rfl, ho1, hb1⟩); (have HB1 : Hid (Below X.heap.size X w1) := below_next (Below.refl X.heap.size X).drew hb1); (have HO1 : Hid (OwnI w1 X.heap.size a' c' ys) := ho1); (have HC1 : Hid ((∀ b o, b < X.heap.size → w1.cell? ⟨b, o, none⟩ = X.cell? ⟨b, o, none⟩) ∧ True) := ⟨(bcell HB1.out).1, trivial⟩); (have hcA : ∀ b o, b < w.heap.size + 1 → w1.cell? ⟨b, o, none⟩ = X.cell? ⟨b, o, none⟩ := fun b o h => (bcell HB1.out).1 b o (by omega)); clear hb1 ho1))
  refine hK.out _ _ ?_ (fun hHeld' => ?_)
  (focus ((try dsimp only); (first | done | ((first | exact HKP.out _ (fun b o h => hcA _ _ (by omega)) | exact HKP.out _ (fun b o h => rfl)); done))))
  clear hK K hHeld
  have hHeld := hHeld'
  clear hHeld'
  (try simp only [Act.put, List.setIfInBounds_toArray, List.set_cons_zero, List.set_cons_succ])
  (refine takeH (i := 10) (v := ?_) (by decide +kernel) (by decide +kernel) (by kernel_rfl) (by rfl) (by exact fun _ _ _ h => h) (by rfl) ?_ (by assumption) ?_); rotate_left; (focus (intro w hSw; (try dsimp only at hSw); go_simp; (try with_reducible rfl); done)); (try simp only [Act.put, List.setIfInBounds_toArray, List.set_cons_zero, List.set_cons_succ])
  refine wpAnyH_done (by decide +kernel) ?_ _
  clear hHeld
  have k0 := (hcA w.heap.size 0 (by omega)).trans q0
  have k1 := (hcA w.heap.size 1 (by omega)).trans q1
  have k2 := (hcA w.heap.size 2 (by omega)).trans q2
  have kf : ∀ o, w1.frozen? ⟨w.heap.size, o, none⟩ = false := fun o => ((bcell HB1.out).2 _ o (by omega)).trans (bf o)
  have zB : w.heap.size < w1.heap.size := by have := HB1.out.size; omega
  go_wp2_with fail
  refine heldH (S := fun W => W.cell? ⟨rb, ro, none⟩ = some (.int .i64 r.pits) ∧ W.cell? ⟨qb, qo, none⟩ = some (.slice (some ⟨pb, po, none⟩) zs.length pc) ∧ W.cell? ⟨qb, qo + 1, none⟩ = some (.slice (some ⟨sb, so, none⟩) 2 sc) ∧ W.cell? ⟨qb, qo + 2, none⟩ = some (.int .i64 pl) ∧ W.cell? ⟨sb, so, none⟩ = some (.int .i64 s0) ∧ W.cell? ⟨sb, so + 1, none⟩ = some (.int .i64 s1)) (n := 31) (listed := #[false, false, false, false, false, false, false, false, false, false, false, false, false, false, false, false, false, false, false, false, false, false, false, false, false, false, false, false, false, false, false]) (by kernel_rfl) (by rfl) (by rfl) ?_ (fun hHeld => ?_)
  (focus ((try dsimp only); (first | done | ((first | exact HKP.out _ (fun b o h => hcB _ _ (by omega)) | exact HKP.out _ (fun b o h => hcA _ _ (by omega)) | (refine HKP.out _ (fun b o h => ?_); (have hb : ¬ b = w.heap.size := by omega); first | ((have hb2 : b < w2.heap.size := by omega); (have hb3 : ¬ b = w2.heap.size := by omega); (have h9 := hcB b o (by omega)); simp [go_sem, hb, hb2, hb3, h9]; done) | ((have hb2 : b < w1.heap.size := by omega); (have hb3 : ¬ b = w1.heap.size := by omega); (have h9 := hcA b o (by omega)); simp [go_sem, hb, hb2, hb3, h9]; done))); done))))
  (refine takeH (i := 0) (v := ?_) (by decide +kernel) (by decide +kernel) (by kernel_rfl) (by rfl) (by exact fun _ _ _ h => h) (by rfl) ?_ (by assumption) ?_); rotate_left; (focus (intro w hSw; (try dsimp only at hSw); go_simp; (try with_reducible rfl); done)); (try simp only [Act.put, List.setIfInBounds_toArray, List.set_cons_zero, List.set_cons_succ])
  (refine takeH (i := 1) (v := ?_) (by decide +kernel) (by decide +kernel) (by kernel_rfl) (by rfl) (by exact fun _ _ _ h => h) (by rfl) ?_ (by assumption) ?_); rotate_left; (focus (intro w hSw; (try dsimp only at hSw); go_simp; (try with_reducible rfl); done)); (try simp only [Act.put, List.setIfInBounds_toArray, List.set_cons_zero, List.set_cons_succ])
  (refine takeH (i := 2) (v := ?_) (by decide +kernel) (by decide +kernel) (by kernel_rfl) (by rfl) (by exact fun _ _ _ h => h) (by rfl) ?_ (by assumption) ?_); rotate_left; (focus (intro w hSw; (try dsimp only at hSw); go_simp; (try with_reducible rfl); done)); (try simp only [Act.put, List.setIfInBounds_toArray, List.set_cons_zero, List.set_cons_succ])
  (refine takeH (i := 3) (v := ?_) (by decide +kernel) (by decide +kernel) (by kernel_rfl) (by rfl) (by exact fun _ _ _ h => h) (by rfl) ?_ (by assumption) ?_); rotate_left; (focus (intro w hSw; (try dsimp only at hSw); go_simp; (try with_reducible rfl); done)); (try simp only [Act.put, List.setIfInBounds_toArray, List.set_cons_zero, List.set_cons_succ])
  (refine takeH (i := 4) (v := ?_) (by decide +kernel) (by decide +kernel) (by kernel_rfl) (by rfl) (by exact fun _ _ _ h => h) (by rfl) ?_ (by assumption) ?_); rotate_left; (focus (intro w hSw; (try dsimp only at hSw); go_simp; (try with_reducible rfl); done)); (try simp only [Act.put, List.setIfInBounds_toArray, List.set_cons_zero, List.set_cons_succ])
  (refine takeH (i := 5) (v := ?_) (by decide +kernel) (by decide +kernel) (by kernel_rfl) (by rfl) (by exact fun _ _ _ h => h) (by rfl) ?_ (by assumption) ?_); rotate_left; (focus (intro w hSw; (try dsimp only at hSw); go_simp; (try with_reducible rfl); done)); (try simp only [Act.put, List.setIfInBounds_toArray, List.set_cons_zero, List.set_cons_succ])
  (refine takeH (i := 6) (v := ?_) (by decide +kernel) (by decide +kernel) (by kernel_rfl) (by rfl) (by exact fun _ _ _ h => h) (by rfl) ?_ (by assumption) ?_); rotate_left; (focus (intro w hSw; (try dsimp only at hSw); go_simp; (try with_reducible rfl); done)); (try simp only [Act.put, List.setIfInBounds_toArray, List.set_cons_zero, List.set_cons_succ])
  (refine takeH (i := 7) (v := ?_) (by decide +kernel) (by decide +kernel) (by kernel_rfl) (by rfl) (by exact fun _ _ _ h => h) (by rfl) ?_ (by assumption) ?_); rotate_left; (focus (intro w hSw; (try dsimp only at hSw); go_simp; (try with_reducible rfl); done)); (try simp only [Act.put, List.setIfInBounds_toArray, List.set_cons_zero, List.set_cons_succ])
  (refine takeH (i := 8) (v := ?_) (by decide +kernel) (by decide +kernel) (by kernel_rfl) (by rfl) (by exact fun _ _ _ h => h) (by rfl) ?_ (by assumption) ?_); rotate_left; (focus (intro w hSw; (try dsimp only at hSw); go_simp; (try with_reducible rfl); done)); (try simp only [Act.put, List.setIfInBounds_toArray, List.set_cons_zero, List.set_cons_succ])
  (refine takeH (i := 9) (v := ?_) (by decide +kernel) (by decide +kernel) (by kernel_rfl) (by rfl) (by exact fun _ _ _ h => h) (by rfl) ?_ (by assumption) ?_); rotate_left; (focus (intro w hSw; (try dsimp only at hSw); go_simp; (try with_reducible rfl); done)); (try simp only [Act.put, List.setIfInBounds_toArray, List.set_cons_zero, List.set_cons_succ])
  (refine takeH (i := 11) (v := ?_) (by decide +kernel) (by decide +kernel) (by kernel_rfl) (by rfl) (by exact fun _ _ _ h => h) (by rfl) ?_ (by assumption) ?_); rotate_left; (focus (intro w hSw; (try dsimp only at hSw); go_simp; (try with_reducible rfl); done)); (try simp only [Act.put, List.setIfInBounds_toArray, List.set_cons_zero, List.set_cons_succ])
  (refine takeH (i := 12) (v := ?_) (by decide +kernel) (by decide +kernel) (by kernel_rfl) (by rfl) (by exact fun _ _ _ h => h) (by rfl) ?_ (by assumption) ?_); rotate_left; (focus (intro w hSw; (try dsimp only at hSw); go_simp; (try with_reducible rfl); done)); (try simp only [Act.put, List.setIfInBounds_toArray, List.set_cons_zero, List.set_cons_succ])
  (refine takeH (i := 13) (v := ?_) (by decide +kernel) (by decide +kernel) (by kernel_rfl) (by rfl) (by exact fun _ _ _ h => h) (by rfl) ?_ (by assumption) ?_); rotate_left; (focus (intro w hSw; (try dsimp only at hSw); go_simp; (try with_reducible rfl); done)); (try simp only [Act.put, List.setIfInBounds_toArray, List.set_cons_zero, List.set_cons_succ])
  (refine takeH (i := 14) (v := ?_) (by decide +kernel) (by decide +kernel) (by kernel_rfl) (by rfl) (by exact fun _ _ _ h => h) (by rfl) ?_ (by assumption) ?_); rotate_left; (focus (intro w hSw; (try dsimp only at hSw); go_simp; (try with_reducible rfl); done)); (try simp only [Act.put, List.setIfInBounds_toArray, List.set_cons_zero, List.set_cons_succ])
  (refine takeH (i := 15) (v := ?_) (by decide +kernel) (by decide +kernel) (by kernel_rfl) (by rfl) (by exact fun _ _ _ h => h) (by rfl) ?_ (by assumption) ?_); rotate_left; (focus (intro w hSw; (try dsimp only at hSw); go_simp; (try with_reducible rfl); done)); (try simp only [Act.put, List.setIfInBounds_toArray, List.set_cons_zero, List.set_cons_succ])
  (refine takeH (i := 16) (v := ?_) (by decide +kernel) (by decide +kernel) (by kernel_rfl) (by rfl) (by exact fun _ _ _ h => h) (by rfl) ?_ (by assumption) ?_); rotate_left; (focus (intro w hSw; (try dsimp only at hSw); go_simp; (try with_reducible rfl); done)); (try simp only [Act.put, List.setIfInBounds_toArray, List.set_cons_zero, List.set_cons_succ])
  (refine takeH (i := 17) (v := ?_) (by decide +kernel) (by decide +kernel) (by kernel_rfl) (by rfl) (by exact fun _ _ _ h => h) (by rfl) ?_ (by assumption) ?_); rotate_left; (focus (intro w hSw; (try dsimp only at hSw); go_simp; (try with_reducible rfl); done)); (try simp only [Act.put, List.setIfInBounds_toArray, List.set_cons_zero, List.set_cons_succ])
  (refine takeH (i := 18) (v := ?_) (by decide +kernel) (by decide +kernel) (by kernel_rfl) (by rfl) (by exact fun _ _ _ h => h) (by rfl) ?_ (by assumption) ?_); rotate_left; (focus (intro w hSw; (try dsimp only at hSw); go_simp; (try with_reducible rfl); done)); (try simp only [Act.put, List.setIfInBounds_toArray, List.set_cons_zero, List.set_cons_succ])
  (refine takeH (i := 19) (v := ?_) (by decide +kernel) (by decide +kernel) (by kernel_rfl) (by rfl) (by exact fun _ _ _ h => h) (by rfl) ?_ (by assumption) ?_); rotate_left; (focus (intro w hSw; (try dsimp only at hSw); go_simp; (try with_reducible rfl); done)); (try simp only [Act.put, List.setIfInBounds_toArray, List.set_cons_zero, List.set_cons_succ])
  (refine takeH (i := 20) (v := ?_) (by decide +kernel) (by decide +kernel) (by kernel_rfl) (by rfl) (by exact fun _ _ _ h => h) (by rfl) ?_ (by assumption) ?_); rotate_left; (focus (intro w hSw; (try dsimp only at hSw); go_simp; (try with_reducible rfl); done)); (try simp only [Act.put, List.setIfInBounds_toArray, List.set_cons_zero, List.set_cons_succ])
  (refine takeH (i := 21) (v := ?_) (by decide +kernel) (by decide +kernel) (by kernel_rfl) (by rfl) (by exact fun _ _ _ h => h) (by rfl) ?_ (by assumption) ?_); rotate_left; (focus (intro w hSw; (try dsimp only at hSw); go_simp; (try with_reducible rfl); done)); (try simp only [Act.put, List.setIfInBounds_toArray, List.set_cons_zero, List.set_cons_succ])
  (refine takeH (i := 22) (v := ?_) (by decide +kernel) (by decide +kernel) (by kernel_rfl) (by rfl) (by exact fun _ _ _ h => h) (by rfl) ?_ (by assumption) ?_); rotate_left; (focus (intro w hSw; (try dsimp only at hSw); go_simp; (try with_reducible rfl); done)); (try simp only [Act.put, List.setIfInBounds_toArray, List.set_cons_zero, List.set_cons_succ])
  (refine takeH (i := 24) (v := ?_) (by decide +kernel) (by decide +kernel) (by kernel_rfl) (by rfl) (by exact fun _ _ _ h => h) (by rfl) ?_ (by assumption) ?_); rotate_left; (focus (intro w hSw; (try dsimp only at hSw); go_simp; (try with_reducible rfl); done)); (try simp only [Act.put, List.setIfInBounds_toArray, List.set_cons_zero, List.set_cons_succ])
  (refine takeH (i := 25) (v := ?_) (by decide +kernel) (by decide +kernel) (by kernel_rfl) (by rfl) (by exact fun _ _ _ h => h) (by rfl) ?_ (by assumption) ?_); rotate_left; (focus (intro w hSw; (try dsimp only at hSw); go_simp; (try with_reducible rfl); done)); (try simp only [Act.put, List.setIfInBounds_toArray, List.set_cons_zero, List.set_cons_succ])
  (refine takeH (i := 26) (v := ?_) (by decide +kernel) (by decide +kernel) (by kernel_rfl) (by rfl) (by exact fun _ _ _ h => h) (by rfl) ?_ (by assumption) ?_); rotate_left; (focus (intro w hSw; (try dsimp only at hSw); go_simp; (try with_reducible rfl); done)); (try simp only [Act.put, List.setIfInBounds_toArray, List.set_cons_zero, List.set_cons_succ])
  (refine takeH (i := 27) (v := ?_) (by decide +kernel) (by decide +kernel) (by kernel_rfl) (by rfl) (by exact fun _ _ _ h => h) (by rfl) ?_ (by assumption) ?_); rotate_left; (focus (intro w hSw; (try dsimp only at hSw); go_simp; (try with_reducible rfl); done)); (try simp only [Act.put, List.setIfInBounds_toArray, List.set_cons_zero, List.set_cons_succ])
  (refine takeH (i := 28) (v := ?_) (by decide +kernel) (by decide +kernel) (by kernel_rfl) (by rfl) (by exact fun _ _ _ h => h) (by rfl) ?_ (by assumption) ?_); rotate_left; (focus (intro w hSw; (try dsimp only at hSw); go_simp; (try with_reducible rfl); done)); (try simp only [Act.put, List.setIfInBounds_toArray, List.set_cons_zero, List.set_cons_succ])
  refine bothH (i := 10) (j := 23) (by decide +kernel) (by rfl) (by rfl) (by rfl) (by rfl) (fun K hK => ?_) (fun K hK => ?_)
  (first | ((refine wp_append_lies _ _ _ 24 rfl X.heap.size 2 i0 _ 1 8 Try.underlying24 hi hz0 hz1 hz2 rfl (by decide) (.slice a' ys.length c') ys.length (ys.map (Value.int .i64)) rfl (by first | exact HOB.out | exact HOB.out.drew | exact HO1.out) ⟨pb, po, none⟩ xs.length pc (xs.map (Value.int .i64)) rfl (by simp) (by intro j u hu; rw [addr_add]; have h := (HC1.out.1 pb (po + j) (by have := HF.out.1; omega)).trans (HPC.out j u (by rw [HL.out.2.2.2, List.map_append]; exact getElem?_front hu)); first | exact (HCB.out pb (po + j) (by have := HF.out.1; omega)).trans h | exact h) (by intro u hu; simp at hu; obtain ⟨_, _, rfl⟩ := hu; rfl) (by have := HL.out; omega) (by have := HL.out; unfold maxLen; omega) (by have := HL.out; omega) (by have := HB1.out.size; first | omega | (simp; omega)) _ rfl ?_); (intro g cap w2 hown2 hg2 hat2 hlt2); (have hB2 : Below X.heap.size X w2 := by (first | exact below_grown HBB.out hg2 (fun k hk => (HO1.out.lt k hk).1) | exact below_grown HBB.out.drew hg2 (fun k hk => (HO1.out.lt k hk).1) | exact below_grown HB1.out.drew hg2 (fun k hk => (HO1.out.lt k hk).1))); (have hcB : ∀ b o, b < w.heap.size + 1 → w2.cell? ⟨b, o, none⟩ = X.cell? ⟨b, o, none⟩ := fun b o h => (bcell hB2).1 b o (by omega)); (have k0 := (hcB w.heap.size 0 (by omega)).trans q0); (have k1 := (hcB w.heap.size 1 (by omega)).trans q1); (have k2 := (hcB w.heap.size 2 (by omega)).trans q2); (have kf : ∀ o, w2.frozen? ⟨w.heap.size, o, none⟩ = false := fun o => ((bcell hB2).2 _ o (by omega)).trans (bf o)); (have zB2 : w.heap.size < w2.heap.size := by have := hB2.size; omega)) | (go_simp; (first | (have h9 := hB2; clear h9) | ((have HBB : Hid (Below X.heap.size X (w1.alloc (.cells #[.int .i64 s1, .int .i64 s0] 2))) := below_next HB1.out (below_alloc1 _ _)); (have HOB : Hid (OwnI (w1.alloc (.cells #[.int .i64 s1, .int .i64 s0] 2)) X.heap.size a' c' ys) := own_below HO1.out (below_alloc1 _ _) (Nat.le_refl _)); (have HCB : Hid (∀ b o, b < w.heap.size + 1 → (w1.alloc (.cells #[.int .i64 s1, .int .i64 s0] 2)).cell? ⟨b, o, none⟩ = w1.cell? ⟨b, o, none⟩) := fun b o h => (bcell (below_alloc1 w1 (.cells #[.int .i64 s1, .int .i64 s0] 2))).1 b o (by omega)); (have HLIT := Lib.hid (World.ownsRow_lit (base := w1.heap.size) (e := 2) (size := 1) w1 #[.int .i64 s1, .int .i64 s0] 2 (Nat.le_refl _) (by unfold maxLen; omega) rfl))))))
  refine hK.out _ _ ?_ (fun hHeld' => ?_)
  (focus ((try dsimp only); (first | done | ((first | exact HKP.out _ (fun b o h => hcB _ _ (by omega)) | exact HKP.out _ (fun b o h => hcA _ _ (by omega)) | (refine HKP.out _ (fun b o h => ?_); (have hb : ¬ b = w.heap.size := by omega); first | ((have hb2 : b < w2.heap.size := by omega); (have hb3 : ¬ b = w2.heap.size := by omega); (have h9 := hcB b o (by omega)); simp [go_sem, hb, hb2, hb3, h9]; done) | ((have hb2 : b < w1.heap.size := by omega); (have hb3 : ¬ b = w1.heap.size := by omega); (have h9 := hcA b o (by omega)); simp [go_sem, hb, hb2, hb3, h9]; done))); done))))
  clear hK K hHeld
  have hHeld := hHeld'
  clear hHeld'
  (try simp only [Act.put, List.setIfInBounds_toArray, List.set_cons_zero, List.set_cons_succ])
  refine nextH (i := 23) (by decide +kernel) (by rfl) (by rfl) (fun K hK => ?_)
  (first | ((refine wp_append_lies _ _ _ 24 rfl X.heap.size 2 i0 _ 1 8 Try.underlying24 hi hz0 hz1 hz2 rfl (by decide) (.slice a' ys.length c') ys.length (ys.map (Value.int .i64)) rfl (by first | exact HOB.out | exact HOB.out.drew | exact HO1.out) ⟨pb, po, none⟩ xs.length pc (xs.map (Value.int .i64)) rfl (by simp) (by intro j u hu; rw [addr_add]; have h := (HC1.out.1 pb (po + j) (by have := HF.out.1; omega)).trans (HPC.out j u (by rw [HL.out.2.2.2, List.map_append]; exact getElem?_front hu)); first | exact (HCB.out pb (po + j) (by have := HF.out.1; omega)).trans h | exact h) (by intro u hu; simp at hu; obtain ⟨_, _, rfl⟩ := hu; rfl) (by have := HL.out; omega) (by have := HL.out; unfold maxLen; omega) (by have := HL.out; omega) (by have := HB1.out.size; first | omega | (simp; omega)) _ rfl ?_); (intro g cap w2 hown2 hg2 hat2 hlt2); (have hB2 : Below X.heap.size X w2 := by (first | exact below_grown HBB.out hg2 (fun k hk => (HO1.out.lt k hk).1) | exact below_grown HBB.out.drew hg2 (fun k hk => (HO1.out.lt k hk).1) | exact below_grown HB1.out.drew hg2 (fun k hk => (HO1.out.lt k hk).1))); (have hcB : ∀ b o, b < w.heap.size + 1 → w2.cell? ⟨b, o, none⟩ = X.cell? ⟨b, o, none⟩ := fun b o h => (bcell hB2).1 b o (by omega)); (have k0 := (hcB w.heap.size 0 (by omega)).trans q0); (have k1 := (hcB w.heap.size 1 (by omega)).trans q1); (have k2 := (hcB w.heap.size 2 (by omega)).trans q2); (have kf : ∀ o, w2.frozen? ⟨w.heap.size, o, none⟩ = false := fun o => ((bcell hB2).2 _ o (by omega)).trans (bf o)); (have zB2 : w.heap.size < w2.heap.size := by have := hB2.size; omega)) | (go_simp; (first | (have h9 := hB2; clear h9) | ((have HBB : Hid (Below X.heap.size X (w1.alloc (.cells #[.int .i64 s1, .int .i64 s0] 2))) := below_next HB1.out (below_alloc1 _ _)); (have HOB : Hid (OwnI (w1.alloc (.cells #[.int .i64 s1, .int .i64 s0] 2)) X.heap.size a' c' ys) := own_below HO1.out (below_alloc1 _ _) (Nat.le_refl _)); (have HCB : Hid (∀ b o, b < w.heap.size + 1 → (w1.alloc (.cells #[.int .i64 s1, .int .i64 s0] 2)).cell? ⟨b, o, none⟩ = w1.cell? ⟨b, o, none⟩) := fun b o h => (bcell (below_alloc1 w1 (.cells #[.int .i64 s1, .int .i64 s0] 2))).1 b o (by omega)); (have HLIT := Lib.hid (World.ownsRow_lit (base := w1.heap.size) (e := 2) (size := 1) w1 #[.int .i64 s1, .int .i64 s0] 2 (Nat.le_refl _) (by unfold maxLen; omega) rfl))))))
  refine hK.out _ _ ?_ (fun hHeld' => ?_)
  (focus ((try dsimp only); (first | done | ((first | exact HKP.out _ (fun b o h => hcB _ _ (by omega)) | exact HKP.out _ (fun b o h => hcA _ _ (by omega)) | (refine HKP.out _ (fun b o h => ?_); (have hb : ¬ b = w.heap.size := by omega); first | ((have hb2 : b < w2.heap.size := by omega); (have hb3 : ¬ b = w2.heap.size := by omega); (have h9 := hcB b o (by omega)); simp [go_sem, hb, hb2, hb3, h9]; done) | ((have hb2 : b < w1.heap.size := by omega); (have hb3 : ¬ b = w1.heap.size := by omega); (have h9 := hcA b o (by omega)); simp [go_sem, hb, hb2, hb3, h9]; done))); done))))
  clear hK K hHeld
  have hHeld := hHeld'
  clear hHeld'
  (try simp only [Act.put, List.setIfInBounds_toArray, List.set_cons_zero, List.set_cons_succ])
  (refine takeH (i := 29) (v := ?_) (by decide +kernel) (by decide +kernel) (by kernel_rfl) (by rfl) (by exact fun _ _ _ h => h) (by rfl) ?_ (by assumption) ?_); rotate_left; (focus (intro w hSw; (try dsimp only at hSw); go_simp; (try with_reducible rfl); done)); (try simp only [Act.put, List.setIfInBounds_toArray, List.set_cons_zero, List.set_cons_succ])
  refine nextH (i := 30) (by decide +kernel) (by rfl) (by rfl) (fun K hK => ?_)
  (first | ((refine wp_append_lies _ _ _ 24 rfl X.heap.size 2 i0 _ 1 8 Try.underlying24 hi hz0 hz1 hz2 rfl (by decide) (.slice a' ys.length c') ys.length (ys.map (Value.int .i64)) rfl (by first | exact HOB.out | exact HOB.out.drew | exact HO1.out) ⟨pb, po, none⟩ xs.length pc (xs.map (Value.int .i64)) rfl (by simp) (by intro j u hu; rw [addr_add]; have h := (HC1.out.1 pb (po + j) (by have := HF.out.1; omega)).trans (HPC.out j u (by rw [HL.out.2.2.2, List.map_append]; exact getElem?_front hu)); first | exact (HCB.out pb (po + j) (by have := HF.out.1; omega)).trans h | exact h) (by intro u hu; simp at hu; obtain ⟨_, _, rfl⟩ := hu; rfl) (by have := HL.out; omega) (by have := HL.out; unfold maxLen; omega) (by have := HL.out; omega) (by have := HB1.out.size; first | omega | (simp; omega)) _ rfl ?_); (intro g cap w2 hown2 hg2 hat2 hlt2); (have hB2 : Below X.heap.size X w2 := by (first | exact below_grown HBB.out hg2 (fun k hk => (HO1.out.lt k hk).1) | exact below_grown HBB.out.drew hg2 (fun k hk => (HO1.out.lt k hk).1) | exact below_grown HB1.out.drew hg2 (fun k hk => (HO1.out.lt k hk).1))); (have hcB : ∀ b o, b < w.heap.size + 1 → w2.cell? ⟨b, o, none⟩ = X.cell? ⟨b, o, none⟩ := fun b o h => (bcell hB2).1 b o (by omega)); (have k0 := (hcB w.heap.size 0 (by omega)).trans q0); (have k1 := (hcB w.heap.size 1 (by omega)).trans q1); (have k2 := (hcB w.heap.size 2 (by omega)).trans q2); (have kf : ∀ o, w2.frozen? ⟨w.heap.size, o, none⟩ = false := fun o => ((bcell hB2).2 _ o (by omega)).trans (bf o)); (have zB2 : w.heap.size < w2.heap.size := by have := hB2.size; omega)) | (go_simp; (first | (have h9 := hB2; clear h9) | ((have HBB : Hid (Below X.heap.size X (w1.alloc (.cells #[.int .i64 s1, .int .i64 s0] 2))) := below_next HB1.out (below_alloc1 _ _)); (have HOB : Hid (OwnI (w1.alloc (.cells #[.int .i64 s1, .int .i64 s0] 2)) X.heap.size a' c' ys) := own_below HO1.out (below_alloc1 _ _) (Nat.le_refl _)); (have HCB : Hid (∀ b o, b < w.heap.size + 1 → (w1.alloc (.cells #[.int .i64 s1, .int .i64 s0] 2)).cell? ⟨b, o, none⟩ = w1.cell? ⟨b, o, none⟩) := fun b o h => (bcell (below_alloc1 w1 (.cells #[.int .i64 s1, .int .i64 s0] 2))).1 b o (by omega)); (have HLIT := Lib.hid (World.ownsRow_lit (base := w1.heap.size) (e := 2) (size := 1) w1 #[.int .i64 s1, .int .i64 s0] 2 (Nat.le_refl _) (by unfold maxLen; omega) rfl))))))
  refine hK.out _ _ ?_ (fun hHeld' => ?_)
  (focus ((try dsimp only); (first | done | ((first | exact HKP.out _ (fun b o h => hcB _ _ (by omega)) | exact HKP.out _ (fun b o h => hcA _ _ (by omega)) | (refine HKP.out _ (fun b o h => ?_); (have hb : ¬ b = w.heap.size := by omega); first | ((have hb2 : b < w2.heap.size := by omega); (have hb3 : ¬ b = w2.heap.size := by omega); (have h9 := hcB b o (by omega)); simp [go_sem, hb, hb2, hb3, h9]; done) | ((have hb2 : b < w1.heap.size := by omega); (have hb3 : ¬ b = w1.heap.size := by omega); (have h9 := hcA b o (by omega)); simp [go_sem, hb, hb2, hb3, h9]; done))); done))))
  clear hK K hHeld
  have hHeld := hHeld'
  clear hHeld'
  (try simp only [Act.put, List.setIfInBounds_toArray, List.set_cons_zero, List.set_cons_succ])
  refine wpAnyH_done (by decide +kernel) ?_ _
  rotate_left
  (first | ((refine wp_append_lies _ _ _ 24 rfl X.heap.size 2 i0 _ 1 8 Try.underlying24 hi hz0 hz1 hz2 rfl (by decide) (.slice a' ys.length c') ys.length (ys.map (Value.int .i64)) rfl (by first | exact HOB.out | exact HOB.out.drew | exact HO1.out) ⟨pb, po, none⟩ xs.length pc (xs.map (Value.int .i64)) rfl (by simp) (by intro j u hu; rw [addr_add]; have h := (HC1.out.1 pb (po + j) (by have := HF.out.1; omega)).trans (HPC.out j u (by rw [HL.out.2.2.2, List.map_append]; exact getElem?_front hu)); first | exact (HCB.out pb (po + j) (by have := HF.out.1; omega)).trans h | exact h) (by intro u hu; simp at hu; obtain ⟨_, _, rfl⟩ := hu; rfl) (by have := HL.out; omega) (by have := HL.out; unfold maxLen; omega) (by have := HL.out; omega) (by have := HB1.out.size; first | omega | (simp; omega)) _ rfl ?_); (intro g cap w2 hown2 hg2 hat2 hlt2); (have hB2 : Below X.heap.size X w2 := by (first | exact below_grown HBB.out hg2 (fun k hk => (HO1.out.lt k hk).1) | exact below_grown HBB.out.drew hg2 (fun k hk => (HO1.out.lt k hk).1) | exact below_grown HB1.out.drew hg2 (fun k hk => (HO1.out.lt k hk).1))); (have hcB : ∀ b o, b < w.heap.size + 1 → w2.cell? ⟨b, o, none⟩ = X.cell? ⟨b, o, none⟩ := fun b o h => (bcell hB2).1 b o (by omega)); (have k0 := (hcB w.heap.size 0 (by omega)).trans q0); (have k1 := (hcB w.heap.size 1 (by omega)).trans q1); (have k2 := (hcB w.heap.size 2 (by omega)).trans q2); (have kf : ∀ o, w2.frozen? ⟨w.heap.size, o, none⟩ = false := fun o => ((bcell hB2).2 _ o (by omega)).trans (bf o)); (have zB2 : w.heap.size < w2.heap.size := by have := hB2.size; omega)) | (go_simp; (first | (have h9 := hB2; clear h9) | ((have HBB : Hid (Below X.heap.size X (w1.alloc (.cells #[.int .i64 s1, .int .i64 s0] 2))) := below_next HB1.out (below_alloc1 _ _)); (have HOB : Hid (OwnI (w1.alloc (.cells #[.int .i64 s1, .int .i64 s0] 2)) X.heap.size a' c' ys) := own_below HO1.out (below_alloc1 _ _) (Nat.le_refl _)); (have HCB : Hid (∀ b o, b < w.heap.size + 1 → (w1.alloc (.cells #[.int .i64 s1, .int .i64 s0] 2)).cell? ⟨b, o, none⟩ = w1.cell? ⟨b, o, none⟩) := fun b o h => (bcell (below_alloc1 w1 (.cells #[.int .i64 s1, .int .i64 s0] 2))).1 b o (by omega)); (have HLIT := Lib.hid (World.ownsRow_lit (base := w1.heap.size) (e := 2) (size := 1) w1 #[.int .i64 s1, .int .i64 s0] 2 (Nat.le_refl _) (by unfold maxLen; omega) rfl))))))
  refine hK.out _ _ ?_ (fun hHeld' => ?_)
  (focus ((try dsimp only); (first | done | ((first | exact HKP.out _ (fun b o h => hcB _ _ (by omega)) | exact HKP.out _ (fun b o h => hcA _ _ (by omega)) | (refine HKP.out _ (fun b o h => ?_); (have hb : ¬ b = w.heap.size := by omega); first | ((have hb2 : b < w2.heap.size := by omega); (have hb3 : ¬ b = w2.heap.size := by omega); (have h9 := hcB b o (by omega)); simp [go_sem, hb, hb2, hb3, h9]; done) | ((have hb2 : b < w1.heap.size := by omega); (have hb3 : ¬ b = w1.heap.size := by omega); (have h9 := hcA b o (by omega)); simp [go_sem, hb, hb2, hb3, h9]; done))); done))))
  clear hK K hHeld
  have hHeld := hHeld'
  clear hHeld'
  (try simp only [Act.put, List.setIfInBounds_toArray, List.set_cons_zero, List.set_cons_succ])
  refine nextH (i := 10) (by decide +kernel) (by rfl) (by rfl) (fun K hK => ?_)
  (first | ((refine wp_append_lies _ _ _ 24 rfl X.heap.size 2 i0 _ 1 8 Try.underlying24 hi hz0 hz1 hz2 rfl (by decide) (.slice a' ys.length c') ys.length (ys.map (Value.int .i64)) rfl (by first | exact HOB.out | exact HOB.out.drew | exact HO1.out) ⟨pb, po, none⟩ xs.length pc (xs.map (Value.int .i64)) rfl (by simp) (by intro j u hu; rw [addr_add]; have h := (HC1.out.1 pb (po + j) (by have := HF.out.1; omega)).trans (HPC.out j u (by rw [HL.out.2.2.2, List.map_append]; exact getElem?_front hu)); first | exact (HCB.out pb (po + j) (by have := HF.out.1; omega)).trans h | exact h) (by intro u hu; simp at hu; obtain ⟨_, _, rfl⟩ := hu; rfl) (by have := HL.out; omega) (by have := HL.out; unfold maxLen; omega) (by have := HL.out; omega) (by have := HB1.out.size; first | omega | (simp; omega)) _ rfl ?_); (intro g cap w2 hown2 hg2 hat2 hlt2); (have hB2 : Below X.heap.size X w2 := by (first | exact below_grown HBB.out hg2 (fun k hk => (HO1.out.lt k hk).1) | exact below_grown HBB.out.drew hg2 (fun k hk => (HO1.out.lt k hk).1) | exact below_grown HB1.out.drew hg2 (fun k hk => (HO1.out.lt k hk).1))); (have hcB : ∀ b o, b < w.heap.size + 1 → w2.cell? ⟨b, o, none⟩ = X.cell? ⟨b, o, none⟩ := fun b o h => (bcell hB2).1 b o (by omega)); (have k0 := (hcB w.heap.size 0 (by omega)).trans q0); (have k1 := (hcB w.heap.size 1 (by omega)).trans q1); (have k2 := (hcB w.heap.size 2 (by omega)).trans q2); (have kf : ∀ o, w2.frozen? ⟨w.heap.size, o, none⟩ = false := fun o => ((bcell hB2).2 _ o (by omega)).trans (bf o)); (have zB2 : w.heap.size < w2.heap.size := by have := hB2.size; omega)) | (go_simp; (first | (have h9 := hB2; clear h9) | ((have HBB : Hid (Below X.heap.size X (w1.alloc (.cells #[.int .i64 s1, .int .i64 s0] 2))) := below_next HB1.out (below_alloc1 _ _)); (have HOB : Hid (OwnI (w1.alloc (.cells #[.int .i64 s1, .int .i64 s0] 2)) X.heap.size a' c' ys) := own_below HO1.out (below_alloc1 _ _) (Nat.le_refl _)); (have HCB : Hid (∀ b o, b < w.heap.size + 1 → (w1.alloc (.cells #[.int .i64 s1, .int .i64 s0] 2)).cell? ⟨b, o, none⟩ = w1.cell? ⟨b, o, none⟩) := fun b o h => (bcell (below_alloc1 w1 (.cells #[.int .i64 s1, .int .i64 s0] 2))).1 b o (by omega)); (have HLIT := Lib.hid (World.ownsRow_lit (base := w1.heap.size) (e := 2) (size := 1) w1 #[.int .i64 s1, .int .i64 s0] 2 (Nat.le_refl _) (by unfold maxLen; omega) rfl))))))
  refine hK.out _ _ ?_ (fun hHeld' => ?_)
  (focus ((try dsimp only); (first | done | ((first | exact HKP.out _ (fun b o h => hcB _ _ (by omega)) | exact HKP.out _ (fun b o h => hcA _ _ (by omega)) | (refine HKP.out _ (fun b o h => ?_); (have hb : ¬ b = w.heap.size := by omega); first | ((have hb2 : b < w2.heap.size := by omega); (have hb3 : ¬ b = w2.heap.size := by omega); (have h9 := hcB b o (by omega)); simp [go_sem, hb, hb2, hb3, h9]; done) | ((have hb2 : b < w1.heap.size := by omega); (have hb3 : ¬ b = w1.heap.size := by omega); (have h9 := hcA b o (by omega)); simp [go_sem, hb, hb2, hb3, h9]; done))); done))))
  clear hK K hHeld
  have hHeld := hHeld'
  clear hHeld'
  (try simp only [Act.put, List.setIfInBounds_toArray, List.set_cons_zero, List.set_cons_succ])
  (refine takeH (i := 29) (v := ?_) (by decide +kernel) (by decide +kernel) (by kernel_rfl) (by rfl) (by exact fun _ _ _ h => h) (by rfl) ?_ (by assumption) ?_); rotate_left; (focus (intro w hSw; (try dsimp only at hSw); go_simp; (try with_reducible rfl); done)); (try simp only [Act.put, List.setIfInBounds_toArray, List.set_cons_zero, List.set_cons_succ])
  refine nextH (i := 30) (by decide +kernel) (by rfl) (by rfl) (fun K hK => ?_)
  (first | ((refine wp_append_lies _ _ _ 24 rfl X.heap.size 2 i0 _ 1 8 Try.underlying24 hi hz0 hz1 hz2 rfl (by decide) (.slice a' ys.length c') ys.length (ys.map (Value.int .i64)) rfl (by first | exact HOB.out | exact HOB.out.drew | exact HO1.out) ⟨pb, po, none⟩ xs.length pc (xs.map (Value.int .i64)) rfl (by simp) (by intro j u hu; rw [addr_add]; have h := (HC1.out.1 pb (po + j) (by have := HF.out.1; omega)).trans (HPC.out j u (by rw [HL.out.2.2.2, List.map_append]; exact getElem?_front hu)); first | exact (HCB.out pb (po + j) (by have := HF.out.1; omega)).trans h | exact h) (by intro u hu; simp at hu; obtain ⟨_, _, rfl⟩ := hu; rfl) (by have := HL.out; omega) (by have := HL.out; unfold maxLen; omega) (by have := HL.out; omega) (by have := HB1.out.size; first | omega | (simp; omega)) _ rfl ?_); (intro g cap w2 hown2 hg2 hat2 hlt2); (have hB2 : Below X.heap.size X w2 := by (first | exact below_grown HBB.out hg2 (fun k hk => (HO1.out.lt k hk).1) | exact below_grown HBB.out.drew hg2 (fun k hk => (HO1.out.lt k hk).1) | exact below_grown HB1.out.drew hg2 (fun k hk => (HO1.out.lt k hk).1))); (have hcB : ∀ b o, b < w.heap.size + 1 → w2.cell? ⟨b, o, none⟩ = X.cell? ⟨b, o, none⟩ := fun b o h => (bcell hB2).1 b o (by omega)); (have k0 := (hcB w.heap.size 0 (by omega)).trans q0); (have k1 := (hcB w.heap.size 1 (by omega)).trans q1); (have k2 := (hcB w.heap.size 2 (by omega)).trans q2); (have kf : ∀ o, w2.frozen? ⟨w.heap.size, o, none⟩ = false := fun o => ((bcell hB2).2 _ o (by omega)).trans (bf o)); (have zB2 : w.heap.size < w2.heap.size := by have := hB2.size; omega)) | (go_simp; (first | (have h9 := hB2; clear h9) | ((have HBB : Hid (Below X.heap.size X (w1.alloc (.cells #[.int .i64 s1, .int .i64 s0] 2))) := below_next HB1.out (below_alloc1 _ _)); (have HOB : Hid (OwnI (w1.alloc (.cells #[.int .i64 s1, .int .i64 s0] 2)) X.heap.size a' c' ys) := own_below HO1.out (below_alloc1 _ _) (Nat.le_refl _)); (have HCB : Hid (∀ b o, b < w.heap.size + 1 → (w1.alloc (.cells #[.int .i64 s1, .int .i64 s0] 2)).cell? ⟨b, o, none⟩ = w1.cell? ⟨b, o, none⟩) := fun b o h => (bcell (below_alloc1 w1 (.cells #[.int .i64 s1, .int .i64 s0] 2))).1 b o (by omega)); (have HLIT := Lib.hid (World.ownsRow_lit (base := w1.heap.size) (e := 2) (size := 1) w1 #[.int .i64 s1, .int .i64 s0] 2 (Nat.le_refl _) (by unfold maxLen; omega) rfl))))))
  refine hK.out _ _ ?_ (fun hHeld' => ?_)
  (focus ((try dsimp only); (first | done | ((first | exact HKP.out _ (fun b o h => hcB _ _ (by omega)) | exact HKP.out _ (fun b o h => hcA _ _ (by omega)) | (refine HKP.out _ (fun b o h => ?_); (have hb : ¬ b = w.heap.size := by omega); first | ((have hb2 : b < w2.heap.size := by omega); (have hb3 : ¬ b = w2.heap.size := by omega); (have h9 := hcB b o (by omega)); simp [go_sem, hb, hb2, hb3, h9]; done) | ((have hb2 : b < w1.heap.size := by omega); (have hb3 : ¬ b = w1.heap.size := by omega); (have h9 := hcA b o (by omega)); simp [go_sem, hb, hb2, hb3, h9]; done))); done))))
  clear hK K hHeld
  have hHeld := hHeld'
  clear hHeld'
  (try simp only [Act.put, List.setIfInBounds_toArray, List.set_cons_zero, List.set_cons_succ])
  refine wpAnyH_done (by decide +kernel) ?_ _
  all_goals (
    have HB2 := Lib.hid (below_next HF.out.2.2.2.2 hB2)
    have HO2 : Hid (OwnI w2 (w.heap.size + 1) (some ⟨g, 0, none⟩) cap (ys ++ xs)) := by
      unfold Hid OwnI
      rw [List.length_append, List.map_append, ← hsz]; exact hown2)
  · have HLB : Hid (w2.ownsRow (w.heap.size + 1) 2 1 (.slice (some ⟨w1.heap.size, 0, none⟩) 2 2) 2 [.int .i64 s1, .int .i64 s0] ∧ ¬ g = w1.heap.size) := by
      have hgo := (fun (e : (Value.slice a' ys.length c').ownBlock = some w1.heap.size) => by have := (HO1.out.lt _ e).2; omega : ¬ (Value.slice a' ys.length c').ownBlock = some w1.heap.size)
      have hq : ∀ k, (Value.slice (some ⟨w1.heap.size, 0, none⟩) 2 2).ownBlock = some k → ¬ (Value.slice a' ys.length c').ownBlock = some k := fun k hk e => by
        simp [Value.ownBlock] at hk
        subst hk
        exact hgo e
      refine ⟨ownsRow_le (base := w1.heap.size) (by first | exact own_grown HLIT.out.drew hg2 hq | exact own_grown HLIT.out hg2 hq) (by omega), fun e => ?_⟩
      · subst e
        rcases hat2 with h9 | h9
        · exact hgo h9
        · simp at h9
    clear HBB HOB HCB HLIT hHeld hcB hcA hB2 hown2 hg2 hat2 HKP HC1 HO1 HB1 q0 q1 q2 bf hsl1 hsl2 HPC HROW HF hXd
    go_wp2
    refine bodyPost_ret (v := P.val ⟨ys ++ xs, [s1, s0], 1 - pl⟩ (some ⟨g, 0, none⟩) cap (some ⟨w1.heap.size, 0, none⟩) 2) (by simp [results, Try.results86, go_sem, k0, k1, k2, kf, zB, zB2, P.val, P.cells]) rfl ?_
    refine ⟨some ⟨g, 0, none⟩, cap, some ⟨w1.heap.size, 0, none⟩, 2, rfl, ⟨?_, ?_, ?_⟩, ?_⟩
    · have k9 := HO2.out
      dsimp only
      refine ownsRow_le (base := w.heap.size + 1) ?_ (by omega)
      repeat (first | (with_reducible exact k9) | ((with_reducible refine ownsRow_setCell_below ?_ ?_ _); rotate_left; (simp <;> omega)) | (with_reducible refine World.ownsRow.alloc ?_ _) | (with_reducible refine World.ownsRow.drew ?_))
    · have k9 := HLB.out.1
      refine ownsRow_le (base := w.heap.size + 1) ?_ (by omega)
      show World.ownsRow _ (w.heap.size + 1) 2 1 (.slice (some ⟨w1.heap.size, 0, none⟩) 2 2) 2 [.int .i64 s1, .int .i64 s0]
      repeat (first | (with_reducible exact k9) | ((with_reducible refine ownsRow_setCell_below ?_ ?_ _); rotate_left; (simp <;> omega)) | (with_reducible refine World.ownsRow.alloc ?_ _) | (with_reducible refine World.ownsRow.drew ?_))
    · refine .inr (fun e => ?_)
      simp [Value.ownBlock] at e
      exact HLB.out.2 e
    · have k9 := HB2.out
      repeat (first | (with_reducible exact k9) | ((with_reducible refine Below.setCell ?_ ?_ _); rotate_left; (simp <;> omega)) | ((with_reducible refine Below.alloc ?_ ?_ _); rotate_left; (first | omega | (simp <;> omega))) | (with_reducible refine Below.drew ?_))
  · clear hHeld hcB hcA hB2 hown2 hg2 hat2 HKP HC1 HO1 HB1 q0 q1 q2 bf hsl1 hsl2 HPC HROW HF hXd
    go_wp2
    refine bodyPost_ret (v := P.val ⟨ys ++ xs, [s1, s0], 1 - pl⟩ (some ⟨g, 0, none⟩) cap (some ⟨w2.heap.size, 0, none⟩) 2) (by simp [results, Try.results86, go_sem, k0, k1, k2, kf, zB, zB2, P.val, P.cells]) rfl ?_
    refine ⟨some ⟨g, 0, none⟩, cap, some ⟨w2.heap.size, 0, none⟩, 2, rfl, ⟨?_, ?_, ?_⟩, ?_⟩
    · have k9 := HO2.out
      dsimp only
      refine ownsRow_le (base := w.heap.size + 1) ?_ (by omega)
      repeat (first | (with_reducible exact k9) | ((with_reducible refine ownsRow_setCell_below ?_ ?_ _); rotate_left; (simp <;> omega)) | (with_reducible refine World.ownsRow.alloc ?_ _) | (with_reducible refine World.ownsRow.drew ?_))
    · have k9 := World.ownsRow_lit (base := w.heap.size + 1) (e := 2) (size := 1) ((((w2.setCell ⟨w.heap.size, 0, none⟩ (.slice (some ⟨g, 0, none⟩) (ys.length + xs.length) cap)).setCell ⟨w.heap.size, 1, none⟩ (.slice (some ⟨w2.heap.size, 0, none⟩) 2 2)).setCell ⟨w.heap.size, 2, none⟩ (.int .i64 (1 - pl)))) #[.int .i64 s1, .int .i64 s0] 2 (by simp; omega) (by unfold maxLen; omega) rfl
      simp only [World.size_setCell] at k9
      exact ownsRow_le k9 (by omega)
    · refine .inr (fun e => ?_)
      have h1 := (HO2.out.lt g rfl).2
      simp [Value.ownBlock] at e
      omega
    · have k9 := HB2.out
      repeat (first | (with_reducible exact k9) | ((with_reducible refine Below.setCell ?_ ?_ _); rotate_left; (simp <;> omega)) | ((with_reducible refine Below.alloc ?_ ?_ _); rotate_left; (first | omega | (simp <;> omega))) | (with_reducible refine Below.drew ?_))

end Go.Proofs.Ytcgbbjlcijhcnaa
