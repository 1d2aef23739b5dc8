/- PfxS: all lines of moves of a length: the reference's function. Each contract holds for every argument, under the premises that it states. -/
import Derived.Test.YtbjdfgfebepacaaPfx
import Derived.Test.YtbjdfgfebepacaaSCnt
import Derived.Deep.CutRange
namespace Go.Proofs.Ytbjdfgfebepacaa
set_option linter.unusedSimpArgs false
set_option linter.unusedVariables false
set_option linter.unnecessarySimpa false
open Go.RowKit Go.ChangeShapes Go.WideShapes Go.ChangeAt Go.Joins

/-- what a call leaves that finds lines, and the pointer to the rules in the same block -/
def SPost (w : World) (C base : Nat) (acc : List (List Int × QA)) (ad : Option Addr) (c : Nat) (news : List (List Int)) (e : Ending) (w' : World) : Prop :=
  PPost w C 1 base acc ad c news e w' ∧ w'.cell? ⟨C, 0, none⟩ = w.cell? ⟨C, 0, none⟩
def WpC (r : R) (C base rb ro d : Nat) : Prop := ∀ (p : P) (_ : p.ok r = true) (pb po : Nat) (pa sa : Option Addr) (pc sc : Nat) (ma : Option Addr) (mc : Nat) (ms : List Int) (w : World) (acc : List (List Int × QA)) (ad : Option Addr) (c : Nat) (_ : PInv w C 1 base acc ad c) (_ : w.cell? ⟨C, 0, none⟩ = some (.pointer (some ⟨rb, ro, none⟩)))
    (_ : R.At w rb ro r) (_ : rb < base) (_ : ¬ rb = C) (_ : P.At w pb po p pa pc sa sc) (_ : PRow w p pa sa)
    (_ : RowN C w ma ms) (_ : ∀ k, (Value.slice ad acc.length c).ownBlock = some k → ∀ b o t, ma = some ⟨b, o, t⟩ → ¬ b = k) (_ : ms.length + d ≤ 100) (_ : base ≤ w.heap.size) (_ : (acc.length : Int) + P8 d ≤ 1000000000000),
    Calls Try.prog 166 #[.pointer (some ⟨C, 0, none⟩), .pointer (some ⟨pb, po, none⟩), .slice ma ms.length mc, .int .i64 (d : Int)] w (SPost w C base acc ad c (pfxT r d p ms))
/-- a round over the results -/
structure EqSt (w w2 wr : World) (C base rb ro : Nat) (r : R) (d : Nat) (ms : List Int) (l : List (Mk × MA)) (k : Nat) (acc : List (List Int × QA)) (v0 : Value) (l1 : List (List Int × QA)) (ad : Option Addr) (c : Nat) (tgt : List (List Int)) : Prop where
  kl : k ≤ l.length
  go : l1.map Prod.fst ++ ((l.drop k).map Prod.fst).flatMap (fun x => pfxT r d (nxt x) (ms ++ [x.move])) = tgt
  n1 : ((acc.length + l1.length : Nat) : Int) + P8 d * ((l.length - k : Nat) : Int) ≤ 1000000000000
  inv : PInv wr C 1 base (acc ++ l1) ad c
  k0 : wr.cell? ⟨C, 0, none⟩ = some (.pointer (some ⟨rb, ro, none⟩))
  keep : Keep C v0 w wr
  mid : ∀ k, w.heap.size ≤ k → k < w2.heap.size → wr.heap[k]? = w2.heap[k]?
  sz : w2.heap.size ≤ wr.heap.size
  no : ∀ k, (Value.slice ad (acc ++ l1).length c).ownBlock = some k → v0.ownBlock = some k ∨ w2.heap.size ≤ k
theorem R.At.kept {w w' : World} {b o : Nat} {r : R} (h : R.At w b o r) (hk : w'.heap[b]? = w.heap[b]?) : R.At w' b o r := ⟨cell_stab h.c0 hk, cell_stab h.c1 hk, cell_stab h.c2 hk, cell_stab h.c3 hk, cell_stab h.c4 hk, cell_stab h.c5 hk, cell_stab h.c6 hk, cell_stab h.c7 hk, cell_stab h.c8 hk⟩
set_option maxRecDepth 100000 in
set_option maxHeartbeats 16000000 in
theorem walkP_step (r : R) (C base rb ro d : Nat) (hd8 : d ≤ 8) (IH : ∀ d', d = d' + 1 → WpC r C base rb ro d') : WpC r C base rb ro d := by
  intro p hok pb po pa sa pc sc ma mc ms w acc ad c hI hk0 hr hrb hrC hp hpr hms hma hml hbw h1
  obtain ⟨i0, hi, hz0, hz1, hz2⟩ := info_parts24 infoR
  obtain ⟨m1, m2⟩ := P.ok_lens hok
  have hCl : C < w.heap.size := World.block_lt_of_cell? w _ hI.c0
  have h8 := P8_pos d
  obtain ⟨dI, hdI⟩ : ∃ dI : Int, dI = (d : Int) := ⟨_, rfl⟩
  rw [← hdI]
  obtain ⟨y, hy⟩ : ∃ y, y = pfxT r d p ms := ⟨_, rfl⟩
  rw [← hy]
  by_cases hd : d = 0
  · have hd0 : (dI == 0) = true := by simp; omega
    subst hd
    have HE : Hid (y = [ms]) := hy
    have HI := Lib.hid hI
    have HM := Lib.hid hms.1
    have HK0 := Lib.hid hk0
    have z0 := hI.c0
    have zf := hI.fz
    have hal : acc.length ≤ 1000000000000 := by omega
    have hm100 : ms.length ≤ 100 := by omega
    clear hdI hy hok hI hk0 hr hp hpr hms hma IH h1
    go_enter Try.func166, Try.ntmps166
    go_upto_region 1 with fail
    refine heldH (S := fun _ => True) (n := 12) (listed := #[false, false, false, false, false, false, false, false, false, false, false, false]) (by kernel_rfl) (by rfl) (by rfl) ?_ (fun hHeld => ?_)
    (focus ((try dsimp only); (first | done | ((exact trivial); done))))
    (refine takeH (i := 0) (v := ?_) (by decide +kernel) (by decide +kernel) (by kernel_rfl) (by rfl) (by exact fun _ _ _ h => h) (by rfl) ?_ (by assumption) ?_); rotate_left; (focus (intro w hSw; (try dsimp only at hSw); go_simp; (try with_reducible rfl); done)); (try simp only [Act.put, List.setIfInBounds_toArray, List.set_cons_zero, List.set_cons_succ])
    (refine takeH (i := 1) (v := ?_) (by decide +kernel) (by decide +kernel) (by kernel_rfl) (by rfl) (by exact fun _ _ _ h => h) (by rfl) ?_ (by assumption) ?_); rotate_left; (focus (intro w hSw; (try dsimp only at hSw); go_simp; (try with_reducible rfl); done)); (try simp only [Act.put, List.setIfInBounds_toArray, List.set_cons_zero, List.set_cons_succ])
    (refine takeH (i := 2) (v := ?_) (by decide +kernel) (by decide +kernel) (by kernel_rfl) (by rfl) (by exact fun _ _ _ h => h) (by rfl) ?_ (by assumption) ?_); rotate_left; (focus (intro w hSw; (try dsimp only at hSw); go_simp; (try with_reducible rfl); done)); (try simp only [Act.put, List.setIfInBounds_toArray, List.set_cons_zero, List.set_cons_succ])
    (refine takeH (i := 3) (v := ?_) (by decide +kernel) (by decide +kernel) (by kernel_rfl) (by rfl) (by exact fun _ _ _ h => h) (by rfl) ?_ (by assumption) ?_); rotate_left; (focus (intro w hSw; (try dsimp only at hSw); go_simp; (try with_reducible rfl); done)); (try simp only [Act.put, List.setIfInBounds_toArray, List.set_cons_zero, List.set_cons_succ])
    (refine takeH (i := 5) (v := ?_) (by decide +kernel) (by decide +kernel) (by kernel_rfl) (by rfl) (by exact fun _ _ _ h => h) (by rfl) ?_ (by assumption) ?_); rotate_left; (focus (intro w hSw; (try dsimp only at hSw); go_simp; (try with_reducible rfl); done)); (try simp only [Act.put, List.setIfInBounds_toArray, List.set_cons_zero, List.set_cons_succ])
    refine bothH (i := 4) (j := 6) (by decide +kernel) (by rfl) (by rfl) (by rfl) (by rfl) (fun K hK => ?_) (fun K hK => ?_)
    (go_simp)
    refine hK.out _ _ ?_ (fun hHeld' => ?_)
    (focus ((try dsimp only); (first | done | ((exact trivial); done))))
    clear hK K hHeld
    have hHeld := hHeld'
    clear hHeld'
    (try simp only [Act.put, List.setIfInBounds_toArray, List.set_cons_zero, List.set_cons_succ])
    refine nextH (i := 6) (by decide +kernel) (by rfl) (by rfl) (fun K hK => ?_)
    (go_simp; go_at_call 178; (refine (l00Own_c ma mc ms _ (HM.out.below (Below.refl _ _).drew (Nat.le_refl _)) (by omega)).mono ?_); (rintro e w2 ⟨ra, rc, rfl, ho2, hb2⟩); (have z2 : w2.cell? ⟨C, 1, none⟩ = some (.slice ad acc.length c) := (hb2.cell (show (Addr.mk C 1 none).block < _ from hCl)).trans z0); (have HI2 := Lib.hid (HI.out.below (below_next (Below.refl _ _).drew hb2))); (have HB2 := Lib.hid (below_next (Below.refl _ _).drew hb2)); (have HO2 := Lib.hid ho2); clear ho2 hb2)
    refine hK.out _ _ ?_ (fun hHeld' => ?_)
    (focus ((try dsimp only); (first | done | ((exact trivial); done))))
    clear hK K hHeld
    have hHeld := hHeld'
    clear hHeld'
    (try simp only [Act.put, List.setIfInBounds_toArray, List.set_cons_zero, List.set_cons_succ])
    refine nextH (i := 7) (by decide +kernel) (by rfl) (by rfl) (fun K hK => ?_)
    (go_simp; (have HS2 : Hid (w.heap.size ≤ w2.heap.size) := HB2.out.size); (have z3 : (w2.alloc (.cells #[.slice ra ms.length rc] 51)).cell? ⟨C, 1, none⟩ = some (.slice ad acc.length c) := ((below_alloc1 w2 (.cells #[.slice ra ms.length rc] 51)).cell (show (Addr.mk C 1 none).block < _ from (by have := HS2.out; show C < w2.heap.size; omega))).trans z2); (have HI3 := Lib.hid (HI2.out.below (below_alloc1 w2 (.cells #[.slice ra ms.length rc] 51)))); (have HMN : Hid ((w2.alloc (.cells #[.slice ra ms.length rc] 51)).ownsRow base 51 1 (.slice ad acc.length c) acc.length (flat rowRL.f acc)) := HI3.out.pcs.all _ (List.mem_cons_self ..)))
    refine hK.out _ _ ?_ (fun hHeld' => ?_)
    (focus ((try dsimp only); (first | done | ((exact trivial); done))))
    clear hK K hHeld
    have hHeld := hHeld'
    clear hHeld'
    (try simp only [Act.put, List.setIfInBounds_toArray, List.set_cons_zero, List.set_cons_succ])
    refine nextH (i := 8) (by decide +kernel) (by rfl) (by rfl) (fun K hK => ?_)
    (refine wp_append_lies _ _ _ 111 rfl base 51 i0 (.slice none 0 0) 1 24 Try.underlying111 hi hz0 hz1 hz2 rfl (by decide) _ _ _ rfl HMN.out ⟨w2.heap.size, 0, none⟩ 1 1 [.slice ra ms.length rc] rfl rfl (by intro j z hz; match j, hz with | 0, hz => (simp at hz; subst hz; simp [Addr.add])) (by intro z hz; simp at hz; subst hz; rfl) (by decide) (by unfold maxLen; omega) (by omega) (by have := HS2.out; simp; omega) _ rfl ?_; (intro g cap w4 ho4 hg4 hn4 hl4); (have hCn : ¬ (Value.slice ad acc.length c).ownBlock = some C := fun e => HI3.out.ne _ (List.mem_cons_self ..) C e rfl); (have hCb : w4.heap[C]? = (w2.alloc (.cells #[.slice ra ms.length rc] 51)).heap[C]? := hg4.block C (World.block_lt_of_cell? _ _ z3) (fun e => hCn e.symm)); (have z4 : w4.cell? ⟨C, 1, none⟩ = some (.slice ad acc.length c) := cell_stab z3 hCb); (have f4 : ∀ o, w4.frozen? ⟨C, o, none⟩ = false := fun o => (World.frozen?_of_block (w := w2.alloc (.cells #[.slice ra ms.length rc] 51)) hCb).trans (HI3.out.fz o)); (have hB3 : Below w.heap.size w (w2.alloc (.cells #[.slice ra ms.length rc] 51)) := HB2.out.trans ((below_alloc1 w2 (.cells #[.slice ra ms.length rc] 51)).mono HB2.out.size)); (have hk4 : w4.cell? ⟨C, 0, none⟩ = some (.pointer (some ⟨rb, ro, none⟩)) := cell_stab ((hB3.cell (show (Addr.mk C 0 none).block < _ from hCl)).trans HK0.out) hCb); (have HPU := Lib.hid (fun u hu => HI.out.push (o := 1) (g := g) (cap := cap) hB3 (ownsRow_le (own_below HO2.out (below_alloc1 w2 (.cells #[.slice ra ms.length rc] 51)) (Nat.le_refl _)) (by simp)) hbw hg4 ho4 (by rcases hn4 with e | e; exact .inl e; exact .inr (Nat.le_of_eq e.symm)) u hu)); (have HK4 : Hid (∀ u, (w4.setCell ⟨C, 1, none⟩ u).cell? ⟨C, 0, none⟩ = w.cell? ⟨C, 0, none⟩) := fun u => ((cell_off (by omega)).trans hk4).trans HK0.out.symm); (have HNN : Hid (∀ k, (Value.slice (some ⟨g, 0, none⟩) (acc ++ [(ms, QA.mk ra rc)]).length cap).ownBlock = some k → (Value.slice ad acc.length c).ownBlock = some k ∨ w.heap.size ≤ k) := fun k hk => by (have e : g = k := by simpa [Value.ownBlock] using hk); subst e; rcases hn4 with e | e; exact .inl e; (have := HS2.out; simp at e; right; omega)); clear ho4 hg4 hn4 hCn hCb hk4 hB3)
    refine hK.out _ _ ?_ (fun hHeld' => ?_)
    (focus ((try dsimp only); (first | done | ((exact trivial); done))))
    clear hK K hHeld
    have hHeld := hHeld'
    clear hHeld'
    (try simp only [Act.put, List.setIfInBounds_toArray, List.set_cons_zero, List.set_cons_succ])
    (refine takeH (i := 9) (v := ?_) (by decide +kernel) (by decide +kernel) (by kernel_rfl) (by rfl) (by exact fun _ _ _ h => h) (by rfl) ?_ (by assumption) ?_); rotate_left; (focus (intro w hSw; (try dsimp only at hSw); go_simp; (try with_reducible rfl); done)); (try simp only [Act.put, List.setIfInBounds_toArray, List.set_cons_zero, List.set_cons_succ])
    (refine takeH (i := 10) (v := ?_) (by decide +kernel) (by decide +kernel) (by kernel_rfl) (by rfl) (by exact fun _ _ _ h => h) (by rfl) ?_ (by assumption) ?_); rotate_left; (focus (intro w hSw; (try dsimp only at hSw); go_simp; (try with_reducible rfl); done)); (try simp only [Act.put, List.setIfInBounds_toArray, List.set_cons_zero, List.set_cons_succ])
    refine nextH (i := 11) (by decide +kernel) (by rfl) (by rfl) (fun K hK => ?_)
    (go_simp; (have z6 : True := trivial))
    refine hK.out _ _ ?_ (fun hHeld' => ?_)
    (focus ((try dsimp only); (first | done | ((exact trivial); done))))
    clear hK K hHeld
    have hHeld := hHeld'
    clear hHeld'
    (try simp only [Act.put, List.setIfInBounds_toArray, List.set_cons_zero, List.set_cons_succ])
    refine wpAnyH_done (by decide +kernel) ?_ _
    rotate_left
    (go_simp; go_at_call 178; (refine (l00Own_c ma mc ms _ (HM.out.below (Below.refl _ _).drew (Nat.le_refl _)) (by omega)).mono ?_); (rintro e w2 ⟨ra, rc, rfl, ho2, hb2⟩); (have z2 : w2.cell? ⟨C, 1, none⟩ = some (.slice ad acc.length c) := (hb2.cell (show (Addr.mk C 1 none).block < _ from hCl)).trans z0); (have HI2 := Lib.hid (HI.out.below (below_next (Below.refl _ _).drew hb2))); (have HB2 := Lib.hid (below_next (Below.refl _ _).drew hb2)); (have HO2 := Lib.hid ho2); clear ho2 hb2)
    refine hK.out _ _ ?_ (fun hHeld' => ?_)
    (focus ((try dsimp only); (first | done | ((exact trivial); done))))
    clear hK K hHeld
    have hHeld := hHeld'
    clear hHeld'
    (try simp only [Act.put, List.setIfInBounds_toArray, List.set_cons_zero, List.set_cons_succ])
    refine bothH (i := 4) (j := 7) (by decide +kernel) (by rfl) (by rfl) (by rfl) (by rfl) (fun K hK => ?_) (fun K hK => ?_)
    (go_simp)
    refine hK.out _ _ ?_ (fun hHeld' => ?_)
    (focus ((try dsimp only); (first | done | ((exact trivial); done))))
    clear hK K hHeld
    have hHeld := hHeld'
    clear hHeld'
    (try simp only [Act.put, List.setIfInBounds_toArray, List.set_cons_zero, List.set_cons_succ])
    refine nextH (i := 7) (by decide +kernel) (by rfl) (by rfl) (fun K hK => ?_)
    (go_simp; (have HS2 : Hid (w.heap.size ≤ w2.heap.size) := HB2.out.size); (have z3 : (w2.alloc (.cells #[.slice ra ms.length rc] 51)).cell? ⟨C, 1, none⟩ = some (.slice ad acc.length c) := ((below_alloc1 w2 (.cells #[.slice ra ms.length rc] 51)).cell (show (Addr.mk C 1 none).block < _ from (by have := HS2.out; show C < w2.heap.size; omega))).trans z2); (have HI3 := Lib.hid (HI2.out.below (below_alloc1 w2 (.cells #[.slice ra ms.length rc] 51)))); (have HMN : Hid ((w2.alloc (.cells #[.slice ra ms.length rc] 51)).ownsRow base 51 1 (.slice ad acc.length c) acc.length (flat rowRL.f acc)) := HI3.out.pcs.all _ (List.mem_cons_self ..)))
    refine hK.out _ _ ?_ (fun hHeld' => ?_)
    (focus ((try dsimp only); (first | done | ((exact trivial); done))))
    clear hK K hHeld
    have hHeld := hHeld'
    clear hHeld'
    (try simp only [Act.put, List.setIfInBounds_toArray, List.set_cons_zero, List.set_cons_succ])
    refine nextH (i := 8) (by decide +kernel) (by rfl) (by rfl) (fun K hK => ?_)
    (refine wp_append_lies _ _ _ 111 rfl base 51 i0 (.slice none 0 0) 1 24 Try.underlying111 hi hz0 hz1 hz2 rfl (by decide) _ _ _ rfl HMN.out ⟨w2.heap.size, 0, none⟩ 1 1 [.slice ra ms.length rc] rfl rfl (by intro j z hz; match j, hz with | 0, hz => (simp at hz; subst hz; simp [Addr.add])) (by intro z hz; simp at hz; subst hz; rfl) (by decide) (by unfold maxLen; omega) (by omega) (by have := HS2.out; simp; omega) _ rfl ?_; (intro g cap w4 ho4 hg4 hn4 hl4); (have hCn : ¬ (Value.slice ad acc.length c).ownBlock = some C := fun e => HI3.out.ne _ (List.mem_cons_self ..) C e rfl); (have hCb : w4.heap[C]? = (w2.alloc (.cells #[.slice ra ms.length rc] 51)).heap[C]? := hg4.block C (World.block_lt_of_cell? _ _ z3) (fun e => hCn e.symm)); (have z4 : w4.cell? ⟨C, 1, none⟩ = some (.slice ad acc.length c) := cell_stab z3 hCb); (have f4 : ∀ o, w4.frozen? ⟨C, o, none⟩ = false := fun o => (World.frozen?_of_block (w := w2.alloc (.cells #[.slice ra ms.length rc] 51)) hCb).trans (HI3.out.fz o)); (have hB3 : Below w.heap.size w (w2.alloc (.cells #[.slice ra ms.length rc] 51)) := HB2.out.trans ((below_alloc1 w2 (.cells #[.slice ra ms.length rc] 51)).mono HB2.out.size)); (have hk4 : w4.cell? ⟨C, 0, none⟩ = some (.pointer (some ⟨rb, ro, none⟩)) := cell_stab ((hB3.cell (show (Addr.mk C 0 none).block < _ from hCl)).trans HK0.out) hCb); (have HPU := Lib.hid (fun u hu => HI.out.push (o := 1) (g := g) (cap := cap) hB3 (ownsRow_le (own_below HO2.out (below_alloc1 w2 (.cells #[.slice ra ms.length rc] 51)) (Nat.le_refl _)) (by simp)) hbw hg4 ho4 (by rcases hn4 with e | e; exact .inl e; exact .inr (Nat.le_of_eq e.symm)) u hu)); (have HK4 : Hid (∀ u, (w4.setCell ⟨C, 1, none⟩ u).cell? ⟨C, 0, none⟩ = w.cell? ⟨C, 0, none⟩) := fun u => ((cell_off (by omega)).trans hk4).trans HK0.out.symm); (have HNN : Hid (∀ k, (Value.slice (some ⟨g, 0, none⟩) (acc ++ [(ms, QA.mk ra rc)]).length cap).ownBlock = some k → (Value.slice ad acc.length c).ownBlock = some k ∨ w.heap.size ≤ k) := fun k hk => by (have e : g = k := by simpa [Value.ownBlock] using hk); subst e; rcases hn4 with e | e; exact .inl e; (have := HS2.out; simp at e; right; omega)); clear ho4 hg4 hn4 hCn hCb hk4 hB3)
    refine hK.out _ _ ?_ (fun hHeld' => ?_)
    (focus ((try dsimp only); (first | done | ((exact trivial); done))))
    clear hK K hHeld
    have hHeld := hHeld'
    clear hHeld'
    (try simp only [Act.put, List.setIfInBounds_toArray, List.set_cons_zero, List.set_cons_succ])
    (refine takeH (i := 9) (v := ?_) (by decide +kernel) (by decide +kernel) (by kernel_rfl) (by rfl) (by exact fun _ _ _ h => h) (by rfl) ?_ (by assumption) ?_); rotate_left; (focus (intro w hSw; (try dsimp only at hSw); go_simp; (try with_reducible rfl); done)); (try simp only [Act.put, List.setIfInBounds_toArray, List.set_cons_zero, List.set_cons_succ])
    (refine takeH (i := 10) (v := ?_) (by decide +kernel) (by decide +kernel) (by kernel_rfl) (by rfl) (by exact fun _ _ _ h => h) (by rfl) ?_ (by assumption) ?_); rotate_left; (focus (intro w hSw; (try dsimp only at hSw); go_simp; (try with_reducible rfl); done)); (try simp only [Act.put, List.setIfInBounds_toArray, List.set_cons_zero, List.set_cons_succ])
    refine nextH (i := 11) (by decide +kernel) (by rfl) (by rfl) (fun K hK => ?_)
    (go_simp; (have z6 : True := trivial))
    refine hK.out _ _ ?_ (fun hHeld' => ?_)
    (focus ((try dsimp only); (first | done | ((exact trivial); done))))
    clear hK K hHeld
    have hHeld := hHeld'
    clear hHeld'
    (try simp only [Act.put, List.setIfInBounds_toArray, List.set_cons_zero, List.set_cons_succ])
    refine wpAnyH_done (by decide +kernel) ?_ _
    rotate_left
    (go_simp; (have HS2 : Hid (w.heap.size ≤ w2.heap.size) := HB2.out.size); (have z3 : (w2.alloc (.cells #[.slice ra ms.length rc] 51)).cell? ⟨C, 1, none⟩ = some (.slice ad acc.length c) := ((below_alloc1 w2 (.cells #[.slice ra ms.length rc] 51)).cell (show (Addr.mk C 1 none).block < _ from (by have := HS2.out; show C < w2.heap.size; omega))).trans z2); (have HI3 := Lib.hid (HI2.out.below (below_alloc1 w2 (.cells #[.slice ra ms.length rc] 51)))); (have HMN : Hid ((w2.alloc (.cells #[.slice ra ms.length rc] 51)).ownsRow base 51 1 (.slice ad acc.length c) acc.length (flat rowRL.f acc)) := HI3.out.pcs.all _ (List.mem_cons_self ..)))
    refine hK.out _ _ ?_ (fun hHeld' => ?_)
    (focus ((try dsimp only); (first | done | ((exact trivial); done))))
    clear hK K hHeld
    have hHeld := hHeld'
    clear hHeld'
    (try simp only [Act.put, List.setIfInBounds_toArray, List.set_cons_zero, List.set_cons_succ])
    refine nextH (i := 4) (by decide +kernel) (by rfl) (by rfl) (fun K hK => ?_)
    (go_simp)
    refine hK.out _ _ ?_ (fun hHeld' => ?_)
    (focus ((try dsimp only); (first | done | ((exact trivial); done))))
    clear hK K hHeld
    have hHeld := hHeld'
    clear hHeld'
    (try simp only [Act.put, List.setIfInBounds_toArray, List.set_cons_zero, List.set_cons_succ])
    refine nextH (i := 8) (by decide +kernel) (by rfl) (by rfl) (fun K hK => ?_)
    (refine wp_append_lies _ _ _ 111 rfl base 51 i0 (.slice none 0 0) 1 24 Try.underlying111 hi hz0 hz1 hz2 rfl (by decide) _ _ _ rfl HMN.out ⟨w2.heap.size, 0, none⟩ 1 1 [.slice ra ms.length rc] rfl rfl (by intro j z hz; match j, hz with | 0, hz => (simp at hz; subst hz; simp [Addr.add])) (by intro z hz; simp at hz; subst hz; rfl) (by decide) (by unfold maxLen; omega) (by omega) (by have := HS2.out; simp; omega) _ rfl ?_; (intro g cap w4 ho4 hg4 hn4 hl4); (have hCn : ¬ (Value.slice ad acc.length c).ownBlock = some C := fun e => HI3.out.ne _ (List.mem_cons_self ..) C e rfl); (have hCb : w4.heap[C]? = (w2.alloc (.cells #[.slice ra ms.length rc] 51)).heap[C]? := hg4.block C (World.block_lt_of_cell? _ _ z3) (fun e => hCn e.symm)); (have z4 : w4.cell? ⟨C, 1, none⟩ = some (.slice ad acc.length c) := cell_stab z3 hCb); (have f4 : ∀ o, w4.frozen? ⟨C, o, none⟩ = false := fun o => (World.frozen?_of_block (w := w2.alloc (.cells #[.slice ra ms.length rc] 51)) hCb).trans (HI3.out.fz o)); (have hB3 : Below w.heap.size w (w2.alloc (.cells #[.slice ra ms.length rc] 51)) := HB2.out.trans ((below_alloc1 w2 (.cells #[.slice ra ms.length rc] 51)).mono HB2.out.size)); (have hk4 : w4.cell? ⟨C, 0, none⟩ = some (.pointer (some ⟨rb, ro, none⟩)) := cell_stab ((hB3.cell (show (Addr.mk C 0 none).block < _ from hCl)).trans HK0.out) hCb); (have HPU := Lib.hid (fun u hu => HI.out.push (o := 1) (g := g) (cap := cap) hB3 (ownsRow_le (own_below HO2.out (below_alloc1 w2 (.cells #[.slice ra ms.length rc] 51)) (Nat.le_refl _)) (by simp)) hbw hg4 ho4 (by rcases hn4 with e | e; exact .inl e; exact .inr (Nat.le_of_eq e.symm)) u hu)); (have HK4 : Hid (∀ u, (w4.setCell ⟨C, 1, none⟩ u).cell? ⟨C, 0, none⟩ = w.cell? ⟨C, 0, none⟩) := fun u => ((cell_off (by omega)).trans hk4).trans HK0.out.symm); (have HNN : Hid (∀ k, (Value.slice (some ⟨g, 0, none⟩) (acc ++ [(ms, QA.mk ra rc)]).length cap).ownBlock = some k → (Value.slice ad acc.length c).ownBlock = some k ∨ w.heap.size ≤ k) := fun k hk => by (have e : g = k := by simpa [Value.ownBlock] using hk); subst e; rcases hn4 with e | e; exact .inl e; (have := HS2.out; simp at e; right; omega)); clear ho4 hg4 hn4 hCn hCb hk4 hB3)
    refine hK.out _ _ ?_ (fun hHeld' => ?_)
    (focus ((try dsimp only); (first | done | ((exact trivial); done))))
    clear hK K hHeld
    have hHeld := hHeld'
    clear hHeld'
    (try simp only [Act.put, List.setIfInBounds_toArray, List.set_cons_zero, List.set_cons_succ])
    (refine takeH (i := 9) (v := ?_) (by decide +kernel) (by decide +kernel) (by kernel_rfl) (by rfl) (by exact fun _ _ _ h => h) (by rfl) ?_ (by assumption) ?_); rotate_left; (focus (intro w hSw; (try dsimp only at hSw); go_simp; (try with_reducible rfl); done)); (try simp only [Act.put, List.setIfInBounds_toArray, List.set_cons_zero, List.set_cons_succ])
    (refine takeH (i := 10) (v := ?_) (by decide +kernel) (by decide +kernel) (by kernel_rfl) (by rfl) (by exact fun _ _ _ h => h) (by rfl) ?_ (by assumption) ?_); rotate_left; (focus (intro w hSw; (try dsimp only at hSw); go_simp; (try with_reducible rfl); done)); (try simp only [Act.put, List.setIfInBounds_toArray, List.set_cons_zero, List.set_cons_succ])
    refine nextH (i := 11) (by decide +kernel) (by rfl) (by rfl) (fun K hK => ?_)
    (go_simp; (have z6 : True := trivial))
    refine hK.out _ _ ?_ (fun hHeld' => ?_)
    (focus ((try dsimp only); (first | done | ((exact trivial); done))))
    clear hK K hHeld
    have hHeld := hHeld'
    clear hHeld'
    (try simp only [Act.put, List.setIfInBounds_toArray, List.set_cons_zero, List.set_cons_succ])
    refine wpAnyH_done (by decide +kernel) ?_ _
    all_goals
      clear hHeld
      go_wp2
      go_end0
      rw [HE.out]
      exact ⟨⟨rfl, [(ms, ⟨ra, rc⟩)], _, cap, rfl, (HPU.out _ (by simp)).1, (HPU.out _ (by simp)).2, HNN.out⟩, HK4.out _⟩
  obtain ⟨d', rfl⟩ : ∃ d', d = d' + 1 := ⟨d - 1, by omega⟩
  obtain ⟨i1, hj, hx0, hx1, hx2⟩ := info_parts infoI
  have hd0 : (dI == 0) = false := by simp; omega
  have hsb : dI - 1 = (d' : Int) := by omega
  have hwb : IntKind.i64.wrap (dI - 1) = (d' : Int) := by rw [hsb]; exact IntWalk.i64_in _ (by omega)
  have HIH := Lib.hid (IH d' rfl)
  have HRR := Lib.hid (l07All_c rb ro pb po r p hok pa sa pc sc _ hr hp hpr (by omega) (by omega))
  have HLN := Lib.hid (allP_len8 hok)
  have HV := Lib.hid (fun x (hx : x ∈ allP r p) => allP_valid hx)
  have HI1 := Lib.hid hI
  have HIO := Lib.hid hI.own
  have HMS := Lib.hid hms
  have HMA := Lib.hid hma
  have HRW := Lib.hid hr
  have HY : Hid (y = (allP r p).flatMap fun x => pfxT r d' (nxt x) (ms ++ [x.move])) := hy
  have h8' := P8_pos d'
  have hm1 : ms.length + 1 ≤ 100 := by omega
  have HM1 := Lib.hid (show ms.length + 1 + d' ≤ 100 by omega)
  have HK0 := Lib.hid hk0
  clear hd hdI hy hok hI hr hp hpr hms hma IH
  go_enter Try.func166, Try.ntmps166
  go_wp2_with fail
  refine HRR.out.mono ?_
  rintro e w2 ⟨l, lad, lc, hl, rfl, ho, hb2⟩
  have HL := Lib.hid hl
  have hll : l.length ≤ 8 := by
    have h1 := HLN.out
    rw [← HL.out, List.length_map] at h1
    exact h1
  obtain ⟨g, hbox, hg0, hgd⟩ := mks_box ho hb2.size
  have HGD := Lib.hid hgd
  have HMK : Hid (MksP w.heap.size w2.heap.size lad lc l w2) := ⟨ho, fun k hk => (ho.row.lt k hk).2, fun x hx => ⟨fun k hk => ((ho.items x hx).1.pits.lt k hk).2, fun k hk => ((ho.items x hx).1.stores.lt k hk).2⟩⟩
  have HBX : Hid (BoxP g (mcells l) w2 ∧ w.heap.size ≤ g) := ⟨hbox, hg0⟩
  have hst0 : Hid (EqSt w w2 w2 C base rb ro r d' ms l 0 acc (.slice ad acc.length c) [] ad c y) := by
    refine ⟨Nat.zero_le _, ?_, ?_, ?_, (hb2.cell (show (Addr.mk C 0 none).block < _ from hCl)).trans HK0.out, Keep.ofBelow hb2, fun _ _ _ => rfl, Nat.le_refl _, fun k hk => ?_⟩
    · rw [List.drop_zero, HL.out, HY.out]; rfl
    · have h1' : P8 d' * (l.length : Int) ≤ P8 d' * 8 := Int.mul_le_mul_of_nonneg_left (by omega) (by omega)
      simp only [P8] at h1
      rw [Nat.sub_zero, List.length_nil]
      omega
    · rw [List.append_nil]; exact HI1.out.below hb2
    · rw [List.append_nil] at hk; exact .inl hk
  have HVX := Lib.hid (fun x (hx : x ∈ l) => HV.out x.1 (by rw [← HL.out]; exact List.mem_map_of_mem hx))
  have hs2 : w.heap.size ≤ w2.heap.size := hb2.size
  clear hb2 hl ho hbox hg0 hgd HV HRR HI1 HY h1 hk0
  go_wp2_with fail
  go_loopw [9] (fun i wr => ∃ (k : Nat) (l1 : List (List Int × QA)) (ad' : Option Addr) (c' : Nat), i = .int .i64 k ∧ EqSt w w2 wr C base rb ro r d' ms l k acc (.slice ad acc.length c) l1 ad' c' y) (fun i _ => l.length - (intOf i).toNat)
  case atStart => exact ⟨0, [], ad, c, rfl, hst0.out⟩
  case round =>
    clear hst0
    obtain ⟨k, l1, ad', c', rfl, hst⟩ := hrel
    have HST := Lib.hid hst
    have hkl := hst.kl
    have hwz := hst.sz
    clear hst
    by_cases hk : k < l.length
    case neg =>
      have HT : Hid (l1.map Prod.fst = y) := by
        have h1 := HST.out.go
        rw [List.drop_eq_nil_of_le (by omega)] at h1
        unfold Hid
        simpa using h1
      go_wp2
      go_end0
      exact ⟨⟨rfl, l1, ad', c', HT.out, HST.out.inv, HST.out.keep, fun k hk => (HST.out.no k hk).imp id (fun e => by omega)⟩, HST.out.k0.trans HK0.out.symm⟩
    obtain ⟨x, hx⟩ : ∃ x, l[k]? = some x := ⟨l[k], by simp [hk]⟩
    have hmk : MksP w.heap.size w2.heap.size lad lc l wr := MksP.stab _ _ _ _ _ _ _ HMK.out HST.out.mid
    obtain ⟨gb, hgb⟩ := HBX.out
    have hgw2 : g < w2.heap.size := World.block_lt_of_cell? w2 _ (box_cells gb hx).1
    have hbx : BoxP g (mcells l) wr := BoxP.stab _ _ _ _ gb (fun k h1 h2 => HST.out.mid k (by omega) (by omega))
    obtain ⟨q0, q1, q2, q3, q4, q5⟩ := box_cells hbx hx
    obtain rfl := HGD.out (by omega)
    have hki : (k : Int) < (l.length : Int) := by omega
    have hgl : g < wr.heap.size := World.block_lt_of_cell? wr _ q0
    have hCw : C < wr.heap.size := World.block_lt_of_cell? wr _ HST.out.inv.c0
    have hxm : x ∈ l := List.mem_of_getElem? hx
    have hit := (hmk.1.items x hxm).1
    have hVN := HVX.out x hxm
    have hs1 := HST.out.n1
    have hmul : P8 d' * ((l.length - k : Nat) : Int) = P8 d' * ((l.length - (k + 1) : Nat) : Int) + P8 d' := by
      rw [show (l.length - k : Nat) = (l.length - (k + 1)) + 1 by omega, Int.natCast_add, Int.mul_add]; simp
    have hnn : 0 ≤ P8 d' * ((l.length - (k + 1) : Nat) : Int) := Int.mul_nonneg (by omega) (by omega)
    have hub := lnT_bd r oneF oneF_bd d' (nxt x.1) hVN
    have HG : Hid (l1.map Prod.fst ++ pfxT r d' (nxt x.1) (ms ++ [x.1.move]) ++ ((l.drop (k + 1)).map Prod.fst).flatMap (fun x => pfxT r d' (nxt x) (ms ++ [x.move])) = y) := by
      have h1 := HST.out.go
      obtain ⟨hk', he⟩ := List.getElem?_eq_some_iff.1 hx
      rw [List.drop_eq_getElem_cons hk', he, List.map_cons, List.flatMap_cons, ← List.append_assoc] at h1
      exact h1
    have HOR : Hid (∀ k, (Value.slice ad' (acc ++ l1).length c').ownBlock = some k → base ≤ k ∧ k < wr.heap.size ∧ (k < w.heap.size ∨ w2.heap.size ≤ k)) := fun k hk => ⟨(HST.out.inv.own k hk).1, (HST.out.inv.own k hk).2, (HST.out.no k hk).imp (fun e => (HIO.out k e).2) id⟩
    have HPL : Hid (((pfxT r d' (nxt x.1) (ms ++ [x.1.move])).length : Int) ≤ P8 d') := by
      unfold Hid
      rw [pfxT_len]
      omega
    have hrw : R.At wr rb ro r := by
      have hrl : rb < w.heap.size := World.block_lt_of_cell? w _ HRW.out.c0
      refine HRW.out.kept (HST.out.keep.block rb hrl hrC (fun e => ?_))
      have := (HIO.out rb e).1
      omega
    have HCC : Hid (∀ (W : World) (ta : Option Addr) (tc : Nat), Below wr.heap.size wr W → OwnI W wr.heap.size ta tc (ms ++ [x.1.move]) → Calls Try.prog 166 #[.pointer (some ⟨C, 0, none⟩), .pointer (some ⟨g, k * 6 + 3, none⟩), .slice ta (ms ++ [x.1.move]).length tc, .int .i64 (d' : Int)] W (SPost W C base (acc ++ l1) ad' c' (pfxT r d' (nxt x.1) (ms ++ [x.1.move])))) := fun W ta tc hW ht => by
      have hl1 : (ms ++ [x.1.move]).length = ms.length + 1 := by simp
      exact HIH.out (nxt x.1) hVN g (k * 6 + 3) x.2.pa x.2.sa x.2.pc x.2.sc ta tc (ms ++ [x.1.move]) W (acc ++ l1) ad' c' (HST.out.inv.below hW) ((hW.cell (show (Addr.mk C 0 none).block < _ from hCw)).trans HST.out.k0) (hrw.below hW (World.block_lt_of_cell? wr _ hrw.c0)) hrb hrC ⟨(hW.cell (show (Addr.mk g (k * 6 + 3) none).block < _ from hgl)).trans q3, (hW.cell (show (Addr.mk g (k * 6 + 3 + 1) none).block < _ from hgl)).trans q4, (hW.cell (show (Addr.mk g (k * 6 + 3 + 2) none).block < _ from hgl)).trans q5⟩ (hit.row.below hW (Nat.le_refl _)) (own_rowN ht hCw)
        (fun q hq b o t e hbk => by
          have h1 := (HOR.out q hq).2.1
          subst e
          have h2 := (ht.lt b rfl).1
          omega) (by rw [hl1]; exact HM1.out) (by have := hW.size; omega) (by rw [List.length_append]; omega)
    have HN1 : Hid (((acc.length + l1.length : Nat) : Int) + P8 d' + P8 d' * ((l.length - (k + 1) : Nat) : Int) ≤ 1000000000000) := by unfold Hid; omega
    have HMW := Lib.hid (HST.out.keep.ints HMS.out HMA.out)
    have HQ0 := Lib.hid q0
    clear hx hmul hnn hub hVN hs1 hit hxm hmk hbx gb hgb hrw q1 q2 q3 q4 q5
    go_upto_region 6 with fail
    go_cut [10] from 36 to 44 (fun s10 wx => ∃ (ta : Option Addr) (tc : Nat), s10 = .slice ta (ms ++ [x.1.move]).length tc ∧ OwnI wx wr.heap.size ta tc (ms ++ [x.1.move]) ∧ Below wr.heap.size wr wx)
    case first =>
      refine heldH (S := fun _ => True) (n := 10) (listed := #[false, false, false, false, false, false, false, false, false, false]) (by kernel_rfl) (by rfl) (by rfl) ?_ (fun hHeld => ?_)
      (focus ((try dsimp only); (first | done | ((exact trivial); done))))
      (refine takeH (i := 0) (v := ?_) (by decide +kernel) (by decide +kernel) (by kernel_rfl) (by rfl) (by exact fun _ _ _ h => h) (by rfl) ?_ (by assumption) ?_); rotate_left; (focus (intro w hSw; (try dsimp only at hSw); go_simp; (try with_reducible rfl); done)); (try simp only [Act.put, List.setIfInBounds_toArray, List.set_cons_zero, List.set_cons_succ])
      (refine takeH (i := 2) (v := ?_) (by decide +kernel) (by decide +kernel) (by kernel_rfl) (by rfl) (by exact fun _ _ _ h => h) (by rfl) ?_ (by assumption) ?_); rotate_left; (focus (intro w hSw; (try dsimp only at hSw); go_simp; (try with_reducible rfl); done)); (try simp only [Act.put, List.setIfInBounds_toArray, List.set_cons_zero, List.set_cons_succ])
      (refine takeH (i := 3) (v := ?_) (by decide +kernel) (by decide +kernel) (by kernel_rfl) (by rfl) (by exact fun _ _ _ h => h) (by rfl) ?_ (by assumption) ?_); rotate_left; (focus (intro w hSw; (try dsimp only at hSw); go_simp; (try with_reducible rfl); done)); (try simp only [Act.put, List.setIfInBounds_toArray, List.set_cons_zero, List.set_cons_succ])
      (refine takeH (i := 4) (v := ?_) (by decide +kernel) (by decide +kernel) (by kernel_rfl) (by rfl) (by exact fun _ _ _ h => h) (by rfl) ?_ (by assumption) ?_); rotate_left; (focus (intro w hSw; (try dsimp only at hSw); go_simp; (try with_reducible rfl); done)); (try simp only [Act.put, List.setIfInBounds_toArray, List.set_cons_zero, List.set_cons_succ])
      (refine takeH (i := 5) (v := ?_) (by decide +kernel) (by decide +kernel) (by kernel_rfl) (by rfl) (by exact fun _ _ _ h => h) (by rfl) ?_ (by assumption) ?_); rotate_left; (focus (intro w hSw; (try dsimp only at hSw); go_simp; (try with_reducible rfl); done)); (try simp only [Act.put, List.setIfInBounds_toArray, List.set_cons_zero, List.set_cons_succ])
      refine bothH (i := 1) (j := 6) (by decide +kernel) (by rfl) (by rfl) (by rfl) (by rfl) (fun K hK => ?_) (fun K hK => ?_)
      (go_simp; go_at_call 178; first | ((refine (l00Own_c ma mc ms _ (HMW.out.1.below (below_alloc1 wr (.cells #[.int .i64 x.1.move] 2)).drew (Nat.le_refl _)) (by omega)).mono ?_); (rintro e w5 ⟨ra, rc, rfl, ho5, hb5⟩); (have hB5 : Below wr.heap.size wr w5 := below_next (below_alloc1 wr (.cells #[.int .i64 x.1.move] 2)).drew hb5); (have hn5 : w5.cell? ⟨wr.heap.size, 0, none⟩ = some (.int .i64 x.1.move) := (hb5.cell (show (Addr.mk wr.heap.size 0 none).block < _ from (by simp))).trans (by simp))) | ((refine (l00Own_c ma mc ms _ (HMW.out.1.below (Below.refl _ _).drew (Nat.le_refl _)) (by omega)).mono ?_); (rintro e w5 ⟨ra, rc, rfl, ho5, hb5⟩); (have hB5 : Below wr.heap.size wr w5 := below_next (Below.refl _ _).drew hb5)); (have q5 : w5.cell? ⟨g, k * 6, none⟩ = some (.int .i64 x.1.move) := (hB5.cell (show (Addr.mk g (k * 6) none).block < _ from hgl)).trans HQ0.out))
      refine hK.out _ _ ?_ (fun hHeld' => ?_)
      (focus ((try dsimp only); (first | done | ((exact trivial); done))))
      clear hK K hHeld
      have hHeld := hHeld'
      clear hHeld'
      (try simp only [Act.put, List.setIfInBounds_toArray, List.set_cons_zero, List.set_cons_succ])
      refine nextH (i := 6) (by decide +kernel) (by rfl) (by rfl) (fun K hK => ?_)
      (first | (simp [go_sem, q5]) | (simp [go_sem, q0]))
      refine hK.out _ _ ?_ (fun hHeld' => ?_)
      (focus ((try dsimp only); (first | done | ((exact trivial); done))))
      clear hK K hHeld
      have hHeld := hHeld'
      clear hHeld'
      (try simp only [Act.put, List.setIfInBounds_toArray, List.set_cons_zero, List.set_cons_succ])
      refine nextH (i := 7) (by decide +kernel) (by rfl) (by rfl) (fun K hK => ?_)
      (go_simp)
      refine hK.out _ _ ?_ (fun hHeld' => ?_)
      (focus ((try dsimp only); (first | done | ((exact trivial); done))))
      clear hK K hHeld
      have hHeld := hHeld'
      clear hHeld'
      (try simp only [Act.put, List.setIfInBounds_toArray, List.set_cons_zero, List.set_cons_succ])
      refine nextH (i := 8) (by decide +kernel) (by rfl) (by rfl) (fun K hK => ?_)
      (first | (refine wp_append_lies _ _ _ 51 rfl wr.heap.size 2 i1 (.int .i64 0) 1 8 Try.underlying51 hj hx0 hx1 hx2 rfl (by decide) _ _ _ rfl (ownsRow_le (own_below ho5 (below_alloc1 w5 (.cells #[.int .i64 x.1.move] 2)) (Nat.le_refl _)) (by simp)) ⟨w5.heap.size, 0, none⟩ 1 1 [.int .i64 x.1.move] rfl rfl (by intro j z hz; match j, hz with | 0, hz => (simp at hz; subst hz; simp [Addr.add])) (by intro z hz; simp at hz; subst hz; rfl) (by decide) (by unfold maxLen; omega) (by omega) (by have := hB5.size; simp; omega) _ rfl ?_; (intro g2 cap w6 ho6 hg6 hn6 hl6); (have hRES : OwnI w6 wr.heap.size (some ⟨g2, 0, none⟩) cap (ms ++ [x.1.move]) ∧ Below wr.heap.size wr w6 := ⟨by unfold OwnI; simpa using ho6, below_grown (hB5.trans ((below_alloc1 w5 (.cells #[.int .i64 x.1.move] 2)).mono hB5.size)) hg6 (fun k hk => by have := (ho5.lt k hk).1; simp at this; omega)⟩)) | (refine wp_append_lies _ _ _ 51 rfl wr.heap.size 2 i1 (.int .i64 0) 1 8 Try.underlying51 hj hx0 hx1 hx2 rfl (by decide) _ _ _ rfl (ownsRow_le ho5 (by simp)) ⟨wr.heap.size, 0, none⟩ 1 1 [.int .i64 x.1.move] rfl rfl (by intro j z hz; match j, hz with | 0, hz => (simp at hz; subst hz; simp [Addr.add, hn5])) (by intro z hz; simp at hz; subst hz; rfl) (by decide) (by unfold maxLen; omega) (by omega) (by have := hB5.size; omega) _ rfl ?_; (intro g2 cap w6 ho6 hg6 hn6 hl6); (have hRES : OwnI w6 wr.heap.size (some ⟨g2, 0, none⟩) cap (ms ++ [x.1.move]) ∧ Below wr.heap.size wr w6 := ⟨by unfold OwnI; simpa using ho6, below_grown hB5 hg6 (fun k hk => by have := (ho5.lt k hk).1; simp at this; omega)⟩)))
      refine hK.out _ _ ?_ (fun hHeld' => ?_)
      (focus ((try dsimp only); (first | done | ((exact trivial); done))))
      clear hK K hHeld
      have hHeld := hHeld'
      clear hHeld'
      (try simp only [Act.put, List.setIfInBounds_toArray, List.set_cons_zero, List.set_cons_succ])
      (refine takeH (i := 9) (v := ?_) (by decide +kernel) (by decide +kernel) (by kernel_rfl) (by rfl) (by exact fun _ _ _ h => h) (by rfl) ?_ (by assumption) ?_); rotate_left; (focus (intro w hSw; (try dsimp only at hSw); go_simp; (try with_reducible rfl); done)); (try simp only [Act.put, List.setIfInBounds_toArray, List.set_cons_zero, List.set_cons_succ])
      refine wpAnyH_done (by decide +kernel) ?_ _
      rotate_left
      (first | (simp [go_sem, q5]) | (simp [go_sem, q0]))
      refine hK.out _ _ ?_ (fun hHeld' => ?_)
      (focus ((try dsimp only); (first | done | ((exact trivial); done))))
      clear hK K hHeld
      have hHeld := hHeld'
      clear hHeld'
      (try simp only [Act.put, List.setIfInBounds_toArray, List.set_cons_zero, List.set_cons_succ])
      refine bothH (i := 1) (j := 7) (by decide +kernel) (by rfl) (by rfl) (by rfl) (by rfl) (fun K hK => ?_) (fun K hK => ?_)
      (go_simp; go_at_call 178; first | ((refine (l00Own_c ma mc ms _ (HMW.out.1.below (below_alloc1 wr (.cells #[.int .i64 x.1.move] 2)).drew (Nat.le_refl _)) (by omega)).mono ?_); (rintro e w5 ⟨ra, rc, rfl, ho5, hb5⟩); (have hB5 : Below wr.heap.size wr w5 := below_next (below_alloc1 wr (.cells #[.int .i64 x.1.move] 2)).drew hb5); (have hn5 : w5.cell? ⟨wr.heap.size, 0, none⟩ = some (.int .i64 x.1.move) := (hb5.cell (show (Addr.mk wr.heap.size 0 none).block < _ from (by simp))).trans (by simp))) | ((refine (l00Own_c ma mc ms _ (HMW.out.1.below (Below.refl _ _).drew (Nat.le_refl _)) (by omega)).mono ?_); (rintro e w5 ⟨ra, rc, rfl, ho5, hb5⟩); (have hB5 : Below wr.heap.size wr w5 := below_next (Below.refl _ _).drew hb5)); (have q5 : w5.cell? ⟨g, k * 6, none⟩ = some (.int .i64 x.1.move) := (hB5.cell (show (Addr.mk g (k * 6) none).block < _ from hgl)).trans HQ0.out))
      refine hK.out _ _ ?_ (fun hHeld' => ?_)
      (focus ((try dsimp only); (first | done | ((exact trivial); done))))
      clear hK K hHeld
      have hHeld := hHeld'
      clear hHeld'
      (try simp only [Act.put, List.setIfInBounds_toArray, List.set_cons_zero, List.set_cons_succ])
      refine nextH (i := 7) (by decide +kernel) (by rfl) (by rfl) (fun K hK => ?_)
      (go_simp)
      refine hK.out _ _ ?_ (fun hHeld' => ?_)
      (focus ((try dsimp only); (first | done | ((exact trivial); done))))
      clear hK K hHeld
      have hHeld := hHeld'
      clear hHeld'
      (try simp only [Act.put, List.setIfInBounds_toArray, List.set_cons_zero, List.set_cons_succ])
      refine nextH (i := 8) (by decide +kernel) (by rfl) (by rfl) (fun K hK => ?_)
      (first | (refine wp_append_lies _ _ _ 51 rfl wr.heap.size 2 i1 (.int .i64 0) 1 8 Try.underlying51 hj hx0 hx1 hx2 rfl (by decide) _ _ _ rfl (ownsRow_le (own_below ho5 (below_alloc1 w5 (.cells #[.int .i64 x.1.move] 2)) (Nat.le_refl _)) (by simp)) ⟨w5.heap.size, 0, none⟩ 1 1 [.int .i64 x.1.move] rfl rfl (by intro j z hz; match j, hz with | 0, hz => (simp at hz; subst hz; simp [Addr.add])) (by intro z hz; simp at hz; subst hz; rfl) (by decide) (by unfold maxLen; omega) (by omega) (by have := hB5.size; simp; omega) _ rfl ?_; (intro g2 cap w6 ho6 hg6 hn6 hl6); (have hRES : OwnI w6 wr.heap.size (some ⟨g2, 0, none⟩) cap (ms ++ [x.1.move]) ∧ Below wr.heap.size wr w6 := ⟨by unfold OwnI; simpa using ho6, below_grown (hB5.trans ((below_alloc1 w5 (.cells #[.int .i64 x.1.move] 2)).mono hB5.size)) hg6 (fun k hk => by have := (ho5.lt k hk).1; simp at this; omega)⟩)) | (refine wp_append_lies _ _ _ 51 rfl wr.heap.size 2 i1 (.int .i64 0) 1 8 Try.underlying51 hj hx0 hx1 hx2 rfl (by decide) _ _ _ rfl (ownsRow_le ho5 (by simp)) ⟨wr.heap.size, 0, none⟩ 1 1 [.int .i64 x.1.move] rfl rfl (by intro j z hz; match j, hz with | 0, hz => (simp at hz; subst hz; simp [Addr.add, hn5])) (by intro z hz; simp at hz; subst hz; rfl) (by decide) (by unfold maxLen; omega) (by omega) (by have := hB5.size; omega) _ rfl ?_; (intro g2 cap w6 ho6 hg6 hn6 hl6); (have hRES : OwnI w6 wr.heap.size (some ⟨g2, 0, none⟩) cap (ms ++ [x.1.move]) ∧ Below wr.heap.size wr w6 := ⟨by unfold OwnI; simpa using ho6, below_grown hB5 hg6 (fun k hk => by have := (ho5.lt k hk).1; simp at this; omega)⟩)))
      refine hK.out _ _ ?_ (fun hHeld' => ?_)
      (focus ((try dsimp only); (first | done | ((exact trivial); done))))
      clear hK K hHeld
      have hHeld := hHeld'
      clear hHeld'
      (try simp only [Act.put, List.setIfInBounds_toArray, List.set_cons_zero, List.set_cons_succ])
      (refine takeH (i := 9) (v := ?_) (by decide +kernel) (by decide +kernel) (by kernel_rfl) (by rfl) (by exact fun _ _ _ h => h) (by rfl) ?_ (by assumption) ?_); rotate_left; (focus (intro w hSw; (try dsimp only at hSw); go_simp; (try with_reducible rfl); done)); (try simp only [Act.put, List.setIfInBounds_toArray, List.set_cons_zero, List.set_cons_succ])
      refine wpAnyH_done (by decide +kernel) ?_ _
      rotate_left
      (go_simp)
      refine hK.out _ _ ?_ (fun hHeld' => ?_)
      (focus ((try dsimp only); (first | done | ((exact trivial); done))))
      clear hK K hHeld
      have hHeld := hHeld'
      clear hHeld'
      (try simp only [Act.put, List.setIfInBounds_toArray, List.set_cons_zero, List.set_cons_succ])
      refine nextH (i := 1) (by decide +kernel) (by rfl) (by rfl) (fun K hK => ?_)
      (go_simp; go_at_call 178; first | ((refine (l00Own_c ma mc ms _ (HMW.out.1.below (below_alloc1 wr (.cells #[.int .i64 x.1.move] 2)).drew (Nat.le_refl _)) (by omega)).mono ?_); (rintro e w5 ⟨ra, rc, rfl, ho5, hb5⟩); (have hB5 : Below wr.heap.size wr w5 := below_next (below_alloc1 wr (.cells #[.int .i64 x.1.move] 2)).drew hb5); (have hn5 : w5.cell? ⟨wr.heap.size, 0, none⟩ = some (.int .i64 x.1.move) := (hb5.cell (show (Addr.mk wr.heap.size 0 none).block < _ from (by simp))).trans (by simp))) | ((refine (l00Own_c ma mc ms _ (HMW.out.1.below (Below.refl _ _).drew (Nat.le_refl _)) (by omega)).mono ?_); (rintro e w5 ⟨ra, rc, rfl, ho5, hb5⟩); (have hB5 : Below wr.heap.size wr w5 := below_next (Below.refl _ _).drew hb5)); (have q5 : w5.cell? ⟨g, k * 6, none⟩ = some (.int .i64 x.1.move) := (hB5.cell (show (Addr.mk g (k * 6) none).block < _ from hgl)).trans HQ0.out))
      refine hK.out _ _ ?_ (fun hHeld' => ?_)
      (focus ((try dsimp only); (first | done | ((exact trivial); done))))
      clear hK K hHeld
      have hHeld := hHeld'
      clear hHeld'
      (try simp only [Act.put, List.setIfInBounds_toArray, List.set_cons_zero, List.set_cons_succ])
      refine nextH (i := 8) (by decide +kernel) (by rfl) (by rfl) (fun K hK => ?_)
      (first | (refine wp_append_lies _ _ _ 51 rfl wr.heap.size 2 i1 (.int .i64 0) 1 8 Try.underlying51 hj hx0 hx1 hx2 rfl (by decide) _ _ _ rfl (ownsRow_le (own_below ho5 (below_alloc1 w5 (.cells #[.int .i64 x.1.move] 2)) (Nat.le_refl _)) (by simp)) ⟨w5.heap.size, 0, none⟩ 1 1 [.int .i64 x.1.move] rfl rfl (by intro j z hz; match j, hz with | 0, hz => (simp at hz; subst hz; simp [Addr.add])) (by intro z hz; simp at hz; subst hz; rfl) (by decide) (by unfold maxLen; omega) (by omega) (by have := hB5.size; simp; omega) _ rfl ?_; (intro g2 cap w6 ho6 hg6 hn6 hl6); (have hRES : OwnI w6 wr.heap.size (some ⟨g2, 0, none⟩) cap (ms ++ [x.1.move]) ∧ Below wr.heap.size wr w6 := ⟨by unfold OwnI; simpa using ho6, below_grown (hB5.trans ((below_alloc1 w5 (.cells #[.int .i64 x.1.move] 2)).mono hB5.size)) hg6 (fun k hk => by have := (ho5.lt k hk).1; simp at this; omega)⟩)) | (refine wp_append_lies _ _ _ 51 rfl wr.heap.size 2 i1 (.int .i64 0) 1 8 Try.underlying51 hj hx0 hx1 hx2 rfl (by decide) _ _ _ rfl (ownsRow_le ho5 (by simp)) ⟨wr.heap.size, 0, none⟩ 1 1 [.int .i64 x.1.move] rfl rfl (by intro j z hz; match j, hz with | 0, hz => (simp at hz; subst hz; simp [Addr.add, hn5])) (by intro z hz; simp at hz; subst hz; rfl) (by decide) (by unfold maxLen; omega) (by omega) (by have := hB5.size; omega) _ rfl ?_; (intro g2 cap w6 ho6 hg6 hn6 hl6); (have hRES : OwnI w6 wr.heap.size (some ⟨g2, 0, none⟩) cap (ms ++ [x.1.move]) ∧ Below wr.heap.size wr w6 := ⟨by unfold OwnI; simpa using ho6, below_grown hB5 hg6 (fun k hk => by have := (ho5.lt k hk).1; simp at this; omega)⟩)))
      refine hK.out _ _ ?_ (fun hHeld' => ?_)
      (focus ((try dsimp only); (first | done | ((exact trivial); done))))
      clear hK K hHeld
      have hHeld := hHeld'
      clear hHeld'
      (try simp only [Act.put, List.setIfInBounds_toArray, List.set_cons_zero, List.set_cons_succ])
      (refine takeH (i := 9) (v := ?_) (by decide +kernel) (by decide +kernel) (by kernel_rfl) (by rfl) (by exact fun _ _ _ h => h) (by rfl) ?_ (by assumption) ?_); rotate_left; (focus (intro w hSw; (try dsimp only at hSw); go_simp; (try with_reducible rfl); done)); (try simp only [Act.put, List.setIfInBounds_toArray, List.set_cons_zero, List.set_cons_succ])
      refine wpAnyH_done (by decide +kernel) ?_ _
      all_goals
        clear hHeld
        (go_wp2_with fail)
        go_meet
        exact ⟨_, cap, by simp, hRES.1, hRES.2⟩
    case rest =>
    obtain ⟨ta, tc, rfl, hta, hBx⟩ := hcut
    have HT6 := Lib.hid hta
    have HB6 := Lib.hid hBx
    have HC6 := Lib.hid (HCC.out _ ta tc hBx hta)
    obtain ⟨n', hn'⟩ : ∃ n', n' = (ms ++ [x.1.move]).length := ⟨_, rfl⟩
    rw [← hn'] at HC6 ⊢
    have hzc : wr.heap.size ≤ wc.heap.size := hBx.size
    clear hta hBx HCC hn' q0
    go_wp2_with fail
    refine HC6.out.mono ?_
    rintro e w7 ⟨⟨rfl, l2, ad2, c2, hl2, hI7, hK7, hn7⟩, hk7⟩
    have HN : Hid (EqSt w w2 w7 C base rb ro r d' ms l (k + 1) acc (.slice ad acc.length c) (l1 ++ l2) ad2 c2 y) := by
      have hl2l : (l2.length : Int) ≤ P8 d' := by
        have h1 := HPL.out
        rw [← hl2, List.length_map] at h1
        exact h1
      refine ⟨by omega, ?_, ?_, ?_, ?_, ?_, fun q h1 h2 => ?_, ?_, fun q hq => ?_⟩
      · rw [List.map_append, hl2]
        exact HG.out
      · have h1 := HN1.out
        rw [List.length_append]
        omega
      · rw [← List.append_assoc]
        exact hI7
      · exact hk7.trans ((HB6.out.cell (show (Addr.mk C 0 none).block < _ from hCw)).trans HST.out.k0)
      · exact ((HST.out.keep.trans (Keep.ofBelow (v := .slice ad acc.length c) HB6.out) (fun k hk => .inl hk)).trans hK7 (fun k hk => (HST.out.no k hk).imp id (fun e => by omega)))
      · have h3 : q < wr.heap.size := by omega
        refine (hK7.block q (by omega) (by omega) (fun e => ?_)).trans ((HB6.out.block q h3).trans (HST.out.mid q h1 h2))
        have := (HOR.out q e).2.2
        omega
      · have := hK7.size; omega
      · rw [← List.append_assoc] at hq
        rcases hn7 q hq with e | e
        · exact HST.out.no q e
        · right; omega
    clear hI7 hK7 hn7 hl2 HT6 HB6 HC6 hk7
    go_wp2
    go_roundw
    case rel => exact ⟨k + 1, l1 ++ l2, ad2, c2, by go_num, HN.out⟩
    case measure => (simp [intOf]; omega)
theorem walkP_c (r : R) (C base rb ro : Nat) : ∀ (d : Nat), d ≤ 8 → WpC r C base rb ro d
  | 0, h => walkP_step r C base rb ro 0 h (fun d' e => absurd e (by omega))
  | d + 1, h => walkP_step r C base rb ro (d + 1) h (fun d' e => by
    obtain rfl : d = d' := by omega
    exact walkP_c r C base rb ro d (by omega))

set_option maxRecDepth 100000 in
set_option maxHeartbeats 8000000 in
theorem sPrefixesOf_c (r : R) (p : P) (d : Int) (pa sa : Option Addr) (pc sc : Nat) (w : World) (h : PRow w p pa sa) (m1 : p.pits.length ≤ 16777216) (m2 : p.stores.length ≤ 16777216) :
    Calls Try.prog 84 #[r.val, p.val pa pc sa sc, .int .i64 d] w (PfxRes2 w (pfxP r p d)) := by
  have F0 := ((Fr.start w).alloc r.cells 25).alloc (p.cells pa pc sa sc) 67
  have hr := R.boxc (F0.at 1 rfl)
  have hp : P.At _ (w.alloc (.cells r.cells 25)).heap.size 0 p pa pc sa sc := ⟨F0.at 0 rfl 0 _ rfl, F0.at 0 rfl 1 _ rfl, F0.at 0 rfl 2 _ rfl⟩
  simp only [World.size_alloc] at hp
  have HC := l22Code_c _ _ _ _ r p d pa sa pc sc _ hr hp (h.below F0.below (Nat.le_refl _)) m1 m2
  obtain ⟨c, hcd⟩ : ∃ c, c = srchC r p d := ⟨_, rfl⟩
  rw [← hcd] at HC
  have HC := Lib.hid HC
  obtain ⟨y, hy⟩ : ∃ y, y = pfxP r p d := ⟨_, rfl⟩
  rw [← hy]
  clear hr hp
  by_cases hz : c = 0
  case neg =>
    have hz' : (c != 0) = true := by simpa using hz
    have HE : Hid (y = ([], c)) := by unfold Hid; rw [hy, pfxP, ← hcd, if_neg hz]
    clear hcd hy hz
    go_enter Try.func84, Try.ntmps84
    go_wp2_with fail
    refine HC.out.mono ?_
    rintro e w1 ⟨rfl, hb1⟩
    have F1 := F0.step hb1
    clear hb1 F0 HC
    go_wp2
    go_ret2
    rw [HE.out]
    exact ⟨[], none, 0, rfl, rfl, pfx_nil _ _, F1.below⟩
  have hz' : (c != 0) = false := by simpa using hz
  obtain ⟨hok, D, hdD, hD, _⟩ := srchC_zero (by rw [← hcd]; exact hz)
  have HY : Hid (y = (pfxT r D p [], 0)) := by
    unfold Hid
    rw [hy, pfxP, ← hcd, if_pos hz, hdD, show ((D : Int)).toNat = D by omega]
  have hp8 := P8_le D (by omega)
  have HOK := Lib.hid hok
  have HH := Lib.hid h
  have HEL := Lib.hid (fun C base rb ro => walkP_c r C base rb ro D hD)
  clear hcd hy hz hok h
  subst hdD
  go_enter Try.func84, Try.ntmps84
  go_wp2_with fail
  refine HC.out.mono ?_
  rintro e w1 ⟨rfl, hb1⟩
  have F1 := F0.step hb1
  have hs1 : w.heap.size + 1 < w1.heap.size := by have := F1.le 0 rfl; simp at this; omega
  have FA := F1.step (below_alloc1 w1 (.cells #[] 51))
  have F2 := FA.allocF #[.pointer (some ⟨w.heap.size, 0, none⟩), .slice (some ⟨w1.heap.size, 0, none⟩) 0 0] 190
  have F3 := F2.step (below_alloc1 _ (.cells #[] 2))
  obtain ⟨bx, bf⟩ := F3.at 0 rfl
  simp only [World.size_alloc] at bx bf
  have hr := R.boxc (F3.at 2 rfl)
  have hp : P.At _ (w.alloc (.cells r.cells 25)).heap.size 0 p pa pc sa sc := ⟨F3.at 1 rfl 0 _ rfl, F3.at 1 rfl 1 _ rfl, F3.at 1 rfl 2 _ rfl⟩
  simp only [World.size_alloc] at hp
  have hI : PInv (((w1.alloc (.cells #[] 51)).alloc (.cells #[.pointer (some ⟨w.heap.size, 0, none⟩), .slice (some ⟨w1.heap.size, 0, none⟩) 0 0] 190)).alloc (.cells #[] 2)) (w1.heap.size + 1) 1 w1.heap.size [] (some ⟨w1.heap.size, 0, none⟩) 0 :=
    ⟨bx 1 _ rfl, bf, (pfx_none w1 w1.heap.size (Nat.le_refl _)).same (fun q hq k hk => by
      obtain rfl := List.mem_singleton.1 hq
      have : w1.heap.size = k := by simpa [Value.ownBlock] using hk
      exact ((below_alloc1 (w1.alloc (.cells #[] 51)) (.cells #[.pointer (some ⟨w.heap.size, 0, none⟩), .slice (some ⟨w1.heap.size, 0, none⟩) 0 0] 190)).trans ((below_alloc1 _ _).mono (by simp))).block k (by simp; omega)), fun q hq k hk e => by
      obtain rfl := List.mem_singleton.1 hq
      have : w1.heap.size = k := by simpa [Value.ownBlock] using hk
      omega⟩
  have hms : RowN (w1.heap.size + 1) (((w1.alloc (.cells #[] 51)).alloc (.cells #[.pointer (some ⟨w.heap.size, 0, none⟩), .slice (some ⟨w1.heap.size, 0, none⟩) 0 0] 190)).alloc (.cells #[] 2)) (some ⟨w1.heap.size + 1 + 1, 0, none⟩) [] := ⟨fun j v hv => by simp at hv, fun b o t e => by cases e; omega⟩
  have HW := Lib.hid (HEL.out (w1.heap.size + 1) w1.heap.size w.heap.size 0 p HOK.out (w.heap.size + 1) 0 pa sa pc sc (some ⟨w1.heap.size + 1 + 1, 0, none⟩) 0 [] _ [] _ 0 hI (bx 0 _ rfl) hr (by omega) (by omega) hp (HH.out.below F3.below (Nat.le_refl _)) hms (fun k hk b o t e => by
    have h1 : w1.heap.size = k := by simpa [Value.ownBlock] using hk
    cases e
    omega) (by simp; omega) (by simp; omega) (by simp; omega))
  have HB3 := Lib.hid F3.below
  clear hb1 F0 F1 FA F2 F3 bx bf hI HEL HC hr hp hms
  go_wp2_with fail
  refine HW.out.mono ?_
  rintro e w3 ⟨⟨rfl, l, ad, cc, hl, hI3, hK3, hn3⟩, _⟩
  have z0 := hI3.c0
  have zs : w1.heap.size + 1 < w3.heap.size := World.block_lt_of_cell? w3 _ z0
  have HF : Hid (l.map Prod.fst = pfxT r D p [] ∧ Pcs w3 w.heap.size (rowRL.pcs ad cc l) ∧ Below w.heap.size w w3) :=
    ⟨hl, ⟨fun q hq => ownsRow_le ((show Pcs w3 w1.heap.size (rowRL.pcs ad cc l) by simpa using hI3.pcs).all q hq) (by omega), (show Pcs w3 w1.heap.size (rowRL.pcs ad cc l) by simpa using hI3.pcs).sep⟩, hK3.below HB3.out (by omega) (fun k hk => by
      have : w1.heap.size = k := by simpa [Value.ownBlock] using hk
      omega)⟩
  simp only [List.nil_append] at z0
  clear hl hI3 hK3 hn3 HW
  go_wp2
  go_ret2
  rw [HY.out]
  exact ⟨l, ad, cc, HF.out.1, rfl, HF.out.2.1, HF.out.2.2⟩

end Go.Proofs.Ytbjdfgfebepacaa
