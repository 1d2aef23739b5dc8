/- Pfx: all lines of moves of a length: the program's function. Each contract holds for every argument, under the premises that it states. -/
import Derived.Test.YtbjdfgfebepacaaCntP
import Derived.Test.YtbjdfgfebepacaaRowed
namespace Go.Proofs.Ytbjdfgfebepacaa
set_option linter.unusedSimpArgs false
set_option linter.unusedVariables false
set_option linter.unnecessarySimpa false
open Go.RowKit Go.ChangeShapes Go.WideShapes Go.ChangeAt Go.Joins

/-! ### in plain terms -/
def pfxT (r : R) : Nat → P → List Int → List (List Int)
  | 0, _, ms => [ms]
  | D + 1, p, ms => (allP r p).flatMap fun x => pfxT r D (nxt x) (ms ++ [x.move])
def pfxP (r : R) (p : P) (d : Int) : List (List Int) × Int := if srchC r p d = 0 then (pfxT r d.toNat p [], 0) else ([], srchC r p d)
theorem pfxGo_len (r : R) (D : Nat) (ms : List Int) (hD : ∀ x ms, ((pfxT r D x ms).length : Int) = lnT r oneF D x) : ∀ l : List Mk, (((l.flatMap fun x => pfxT r D (nxt x) (ms ++ [x.move])).length : Nat) : Int) = lnGo (lnT r oneF D) l
  | [] => rfl
  | x :: l => by
    have := pfxGo_len r D ms hD l
    rw [List.flatMap_cons, List.length_append, Int.natCast_add, hD, this]
    rfl
theorem pfxT_len (r : R) : ∀ (D : Nat) (p : P) (ms : List Int), ((pfxT r D p ms).length : Int) = lnT r oneF D p
  | 0, p, ms => rfl
  | D + 1, p, ms => pfxGo_len r D ms (pfxT_len r D) (allP r p)
theorem pfxT_each (r : R) : ∀ (D : Nat) (p : P) (ms : List Int), ∀ z ∈ pfxT r D p ms, z.length = ms.length + D
  | 0, p, ms, z, hz => by
    obtain rfl : z = ms := by simpa [pfxT] using hz
    rfl
  | D + 1, p, ms, z, hz => by
    obtain ⟨x, _, hx⟩ := List.mem_flatMap.1 hz
    have := pfxT_each r D _ _ z hx
    simp at this
    omega

/-! ### in memory -/
structure QA where
  qa : Option Addr
  qc : Nat
def rowRL : RL (List Int × QA) where
  e := 51
  n := 1
  f := fun x => [.slice x.2.qa x.1.length x.2.qc]
  m := 1
  g := fun x => [pieceI x.2.qa x.2.qc x.1]
  hf := fun x => rfl
  hg := fun x => rfl
theorem infoR : (Try.prog.info? 51).map (fun i => (i.zero, i.size, i.bytes)) = some (some (.slice none 0 0), 1, 24) := by kernel_rfl
theorem info_parts24 {e : TypeId} {z : Value} {bytes : Nat} (h : (Try.prog.info? e).map (fun i => (i.zero, i.size, i.bytes)) = some (some z, 1, bytes)) :
    ∃ i, Try.prog.info? e = some i ∧ i.zero = some z ∧ i.size = 1 ∧ i.bytes = bytes := by
  cases hi : Try.prog.info? e with
  | none => rw [hi] at h; cases h
  | some i =>
    rw [hi] at h
    simp only [Option.map_some, Option.some.injEq, Prod.mk.injEq] at h
    exact ⟨i, rfl, h.1, h.2.1, h.2.2⟩
/-- all blocks but C and the one of v are as they were -/
structure Keep (C : Nat) (v : Value) (w w' : World) : Prop where
  os : w'.os = w.os
  tape : w'.tape = w.tape
  output : w'.output = w.output
  size : w.heap.size ≤ w'.heap.size
  block : ∀ k, k < w.heap.size → ¬ k = C → ¬ v.ownBlock = some k → w'.heap[k]? = w.heap[k]?
theorem Keep.refl (C : Nat) (v : Value) (w : World) : Keep C v w w := ⟨rfl, rfl, rfl, Nat.le_refl _, fun _ _ _ _ => rfl⟩
theorem Keep.ofBelow {C : Nat} {v : Value} {w w' : World} (h : Below w.heap.size w w') : Keep C v w w' := ⟨h.os, h.tape, h.output, h.size, fun k hk _ _ => h.block k hk⟩
theorem Keep.trans {C : Nat} {v v' : Value} {a b c : World} (h : Keep C v a b) (k : Keep C v' b c) (hv : ∀ k, v'.ownBlock = some k → v.ownBlock = some k ∨ a.heap.size ≤ k) : Keep C v a c :=
  ⟨k.os.trans h.os, k.tape.trans h.tape, k.output.trans h.output, Nat.le_trans h.size k.size, fun i hi h1 h2 =>
    (k.block i (Nat.lt_of_lt_of_le hi h.size) h1 (fun e => by rcases hv i e with e | e; exact h2 e; omega)).trans (h.block i hi h1 h2)⟩
theorem Keep.ints {C : Nat} {v : Value} {w w' : World} {a : Option Addr} {xs : List Int} (h : Keep C v w w') (hx : RowN C w a xs) (hn : ∀ k, v.ownBlock = some k → ∀ b o t, a = some ⟨b, o, t⟩ → ¬ b = k) : RowN C w' a xs := by
  refine ⟨fun j u hu => ?_, hx.2⟩
  obtain ⟨b, off, ha, hc⟩ := hx.1 j u hu
  exact ⟨b, off, ha, cell_stab hc (h.block b (World.block_lt_of_cell? w _ hc) (hx.2 b off none ha) (fun e => hn b e b off none ha rfl))⟩
theorem Keep.below {C : Nat} {v : Value} {w w' : World} (h : Keep C v w w') {w0 : World} (hb : Below w0.heap.size w0 w) (hC : w0.heap.size ≤ C) (hv : ∀ k, v.ownBlock = some k → w0.heap.size ≤ k) : Below w0.heap.size w0 w' :=
  ⟨h.os.trans hb.os, h.tape.trans hb.tape, h.output.trans hb.output, Nat.le_trans hb.size h.size, fun i hi => (h.block i (Nat.lt_of_lt_of_le hi hb.size) (by omega) (fun e => by have := hv i e; omega)).trans (hb.block i hi)⟩
/-- the lines found so far: their list's header lies in block C -/
structure PInv (w : World) (C o base : Nat) (acc : List (List Int × QA)) (ad : Option Addr) (c : Nat) : Prop where
  c0 : w.cell? ⟨C, o, none⟩ = some (.slice ad acc.length c)
  fz : ∀ o, w.frozen? ⟨C, o, none⟩ = false
  pcs : Pcs w base (rowRL.pcs ad c acc)
  ne : ∀ q ∈ rowRL.pcs ad c acc, ∀ k, q.v.ownBlock = some k → ¬ k = C
theorem PInv.lts {w : World} {C o base c : Nat} {acc : List (List Int × QA)} {ad : Option Addr} (h : PInv w C o base acc ad c) : ∀ q ∈ rowRL.pcs ad c acc, ∀ k, q.v.ownBlock = some k → base ≤ k ∧ k < w.heap.size := fun q hq k hk => (h.pcs.all q hq).lt k hk
theorem PInv.own {w : World} {C o base c : Nat} {acc : List (List Int × QA)} {ad : Option Addr} (h : PInv w C o base acc ad c) : ∀ k, (Value.slice ad acc.length c).ownBlock = some k → base ≤ k ∧ k < w.heap.size := h.lts _ (List.mem_cons_self ..)
theorem PInv.below {w w' : World} {C o base c : Nat} {acc : List (List Int × QA)} {ad : Option Addr} (h : PInv w C o base acc ad c) (hb : Below w.heap.size w w') : PInv w' C o base acc ad c := by
  have hB : C < w.heap.size := World.block_lt_of_cell? w _ h.c0
  exact ⟨(hb.cell (show (Addr.mk C o none).block < _ from hB)).trans h.c0, fun q => (hb.frozen (show (Addr.mk C q none).block < _ from hB)).trans (h.fz q), h.pcs.same (fun q hq k hk => hb.block k (h.lts q hq k hk).2), h.ne⟩
/-- what a call leaves that finds lines -/
def PPost (w : World) (C o base : Nat) (acc : List (List Int × QA)) (ad : Option Addr) (c : Nat) (news : List (List Int)) (e : Ending) (w' : World) : Prop :=
  e = .returned (.tuple #[]) ∧ ∃ (l : List (List Int × QA)) (ad' : Option Addr) (c' : Nat), l.map Prod.fst = news ∧ PInv w' C o base (acc ++ l) ad' c' ∧ Keep C (.slice ad acc.length c) w w' ∧
    ∀ k, (Value.slice ad' (acc ++ l).length c').ownBlock = some k → (Value.slice ad acc.length c).ownBlock = some k ∨ w.heap.size ≤ k
/-- a line more: its own row is made, the list grows, its header is stored -/
theorem PInv.push {w w1 w2 : World} {C o base c g cap qc : Nat} {acc : List (List Int × QA)} {ad qa : Option Addr} {ms : List Int} (h : PInv w C o base acc ad c) (hb : Below w.heap.size w w1) (hr : OwnI w1 w.heap.size qa qc ms) (hbw : base ≤ w.heap.size)
    (hg : w1.grownBy w2 (Value.slice ad acc.length c).ownBlock) (ho : w2.ownsRow base 51 1 (.slice (some ⟨g, 0, none⟩) (acc.length + 1) cap) (acc.length + 1) (flat rowRL.f acc ++ [.slice qa ms.length qc])) (hn : (Value.slice ad acc.length c).ownBlock = some g ∨ w1.heap.size ≤ g) (u : Value) (hu : u = .slice (some ⟨g, 0, none⟩) (acc ++ [(ms, QA.mk qa qc)]).length cap) :
    PInv (w2.setCell ⟨C, o, none⟩ u) C o base (acc ++ [(ms, QA.mk qa qc)]) (some ⟨g, 0, none⟩) cap ∧ Keep C (.slice ad acc.length c) w (w2.setCell ⟨C, o, none⟩ u) := by
  have hCl : C < w.heap.size := World.block_lt_of_cell? w _ h.c0
  have hI1 := h.below hb
  have hCn : ¬ (Value.slice ad acc.length c).ownBlock = some C := fun e => h.ne _ (List.mem_cons_self ..) C e rfl
  have hCb : w2.heap[C]? = w1.heap[C]? := hg.block C (Nat.lt_of_lt_of_le hCl hb.size) (fun e => hCn e.symm)
  have hp := hI1.pcs.app (x := (ms, QA.mk qa qc)) (hi := w.heap.size) (fun q hq k hk => (h.lts q hq k hk).2) hbw hb.size (fun q hq => by
    obtain rfl := List.mem_singleton.1 hq
    exact hr) (List.pairwise_singleton _ _) hg ho hn
  have hc2 : w2.cell? ⟨C, o, none⟩ = some (.slice ad acc.length c) := cell_stab hI1.c0 hCb
  have hne : ∀ q ∈ rowRL.pcs (some ⟨g, 0, none⟩) cap (acc ++ [(ms, QA.mk qa qc)]), ∀ k, q.v.ownBlock = some k → ¬ k = C := by
    intro q hq k hk e
    rcases List.mem_cons.1 hq with rfl | hq
    · obtain rfl : g = k := by simpa [Value.ownBlock] using hk
      rcases hn with hn | hn
      · exact h.ne _ (List.mem_cons_self ..) _ hn e
      · have := hb.size; omega
    · rw [flat_append, flat_one] at hq
      rcases List.mem_append.1 hq with hq | hq
      · exact h.ne _ (List.mem_cons_of_mem _ hq) k hk e
      · obtain rfl := List.mem_singleton.1 hq
        have := (hr.lt k hk).1
        omega
  subst hu
  refine ⟨⟨World.cell?_setCell_same _ _ _ hc2, fun q => by simp [(World.frozen?_of_block (w := w1) hCb).trans (hI1.fz q)], hp.same (fun q hq k hk => ?_), hne⟩, ?_⟩
  · exact Below.heap_setCell _ _ _ k (by simpa using hne q hq k hk)
  · refine ⟨hg.os.trans hb.os, hg.tape.trans hb.tape, hg.output.trans hb.output, ?_, fun k hk h1 h2 => ?_⟩
    · have := hb.size; have := hg.size; simp; omega
    · rw [Below.heap_setCell _ _ _ k (by simpa using h1), hg.block k (Nat.lt_of_lt_of_le hk hb.size) (fun e => h2 e.symm), hb.block k hk]

set_option maxRecDepth 100000 in
set_option maxHeartbeats 8000000 in
theorem prefixes1_c (C base : Nat) (q : P) (qa ta : Option Addr) (qc tc : Nat) (ma : Option Addr) (mc : Nat) (ms : List Int) (w : World) (acc : List (List Int × QA)) (ad : Option Addr) (c : Nat) (h : PInv w C 0 base acc ad c) (hm : Ints w ma ms) (hml : ms.length ≤ 100) (hbw : base ≤ w.heap.size) (hal : (acc.length : Int) ≤ 1000000000000) :
    Calls Try.prog 168 #[.slice ma ms.length mc, q.val qa qc ta tc, .pointer (some ⟨C, 0, none⟩)] w (PPost w C 0 base acc ad c [ms]) := by
  obtain ⟨i0, hi, hz0, hz1, hz2⟩ := info_parts24 infoR
  have hCl : C < w.heap.size := World.block_lt_of_cell? w _ h.c0
  have B0 := below_alloc1 w (.cells (q.cells qa qc ta tc) 67)
  have HI := Lib.hid h
  have HI1 := Lib.hid (h.below B0)
  have HM := Lib.hid (hm.below B0 (Nat.le_refl _))
  have z0 := (h.below B0).c0
  have zf := (h.below B0).fz
  clear h hm
  go_enter Try.func168, Try.ntmps168
  go_upto_region 1 with fail
  have hzX : (w.alloc (.cells (q.cells qa qc ta tc) 67)).heap.size = w.heap.size + 1 := by simp
  simp only [P.cells] at z0 zf B0 HI1 HM hzX
  generalize hXd : (w.alloc (.cells #[.slice qa q.pits.length qc, .slice ta q.stores.length tc, .int .i64 q.player] 67)) = X at *
  have hCX : C < X.heap.size := by omega
  refine heldH (S := fun _ => True) (n := 6) (listed := #[false, false, false, false, false, false]) (by kernel_rfl) (by rfl) (by rfl) ?_ (fun hHeld => ?_)
  (focus ((try dsimp only); (first | done | ((exact trivial); done))))
  (refine takeH (i := 1) (v := ?_) (by decide +kernel) (by decide +kernel) (by kernel_rfl) (by rfl) (by exact fun _ _ _ h => h) (by rfl) ?_ (by assumption) ?_); rotate_left; (focus (intro w hSw; (try dsimp only at hSw); go_simp; (try with_reducible rfl); done)); (try simp only [Act.put, List.setIfInBounds_toArray, List.set_cons_zero, List.set_cons_succ])
  refine bothH (i := 0) (j := 2) (by decide +kernel) (by rfl) (by rfl) (by rfl) (by rfl) (fun K hK => ?_) (fun K hK => ?_)
  (go_simp)
  refine hK.out _ _ ?_ (fun hHeld' => ?_)
  (focus ((try dsimp only); (first | done | ((exact trivial); done))))
  clear hK K hHeld
  have hHeld := hHeld'
  clear hHeld'
  (try simp only [Act.put, List.setIfInBounds_toArray, List.set_cons_zero, List.set_cons_succ])
  refine nextH (i := 2) (by decide +kernel) (by rfl) (by rfl) (fun K hK => ?_)
  (go_simp; go_at_call 139; (refine (copyNumbers_c ma mc ms _ (HM.out.below (Below.refl _ _).drew (Nat.le_refl _)) (by omega)).mono ?_); (rintro e w2 ⟨ra, rc, rfl, ho2, hb2⟩); (have z2 : w2.cell? ⟨C, 0, none⟩ = some (.slice ad acc.length c) := (hb2.cell (show (Addr.mk C 0 none).block < _ from hCX)).trans z0); (have HI2 := Lib.hid (HI1.out.below (below_next (Below.refl _ _).drew hb2))); (have HB2 := Lib.hid (below_next (Below.refl _ _).drew hb2)); (have HO2 := Lib.hid ho2); clear ho2 hb2)
  refine hK.out _ _ ?_ (fun hHeld' => ?_)
  (focus ((try dsimp only); (first | done | ((exact trivial); done))))
  clear hK K hHeld
  have hHeld := hHeld'
  clear hHeld'
  (try simp only [Act.put, List.setIfInBounds_toArray, List.set_cons_zero, List.set_cons_succ])
  refine nextH (i := 3) (by decide +kernel) (by rfl) (by rfl) (fun K hK => ?_)
  (go_simp; (have HS2 : Hid (w.heap.size + 1 ≤ w2.heap.size) := by have := HB2.out.size; unfold Hid; omega); (have z3 : (w2.alloc (.cells #[.slice ra ms.length rc] 51)).cell? ⟨C, 0, none⟩ = some (.slice ad acc.length c) := ((below_alloc1 w2 (.cells #[.slice ra ms.length rc] 51)).cell (show (Addr.mk C 0 none).block < _ from (by have := HS2.out; show C < w2.heap.size; omega))).trans z2); (have HI3 := Lib.hid (HI2.out.below (below_alloc1 w2 (.cells #[.slice ra ms.length rc] 51)))); (have HMN : Hid ((w2.alloc (.cells #[.slice ra ms.length rc] 51)).ownsRow base 51 1 (.slice ad acc.length c) acc.length (flat rowRL.f acc)) := HI3.out.pcs.all _ (List.mem_cons_self ..)))
  refine hK.out _ _ ?_ (fun hHeld' => ?_)
  (focus ((try dsimp only); (first | done | ((exact trivial); done))))
  clear hK K hHeld
  have hHeld := hHeld'
  clear hHeld'
  (try simp only [Act.put, List.setIfInBounds_toArray, List.set_cons_zero, List.set_cons_succ])
  refine nextH (i := 4) (by decide +kernel) (by rfl) (by rfl) (fun K hK => ?_)
  (refine wp_append_lies _ _ _ 111 rfl base 51 i0 (.slice none 0 0) 1 24 Try.underlying111 hi hz0 hz1 hz2 rfl (by decide) _ _ _ rfl HMN.out ⟨w2.heap.size, 0, none⟩ 1 1 [.slice ra ms.length rc] rfl rfl (by intro j z hz; match j, hz with | 0, hz => (simp at hz; subst hz; simp [Addr.add])) (by intro z hz; simp at hz; subst hz; rfl) (by decide) (by unfold maxLen; omega) (by omega) (by have := HS2.out; simp; omega) _ rfl ?_; (intro g cap w4 ho4 hg4 hn4 hl4); (have hCn : ¬ (Value.slice ad acc.length c).ownBlock = some C := fun e => HI3.out.ne _ (List.mem_cons_self ..) C e rfl); (have hCb : w4.heap[C]? = (w2.alloc (.cells #[.slice ra ms.length rc] 51)).heap[C]? := hg4.block C (World.block_lt_of_cell? _ _ z3) (fun e => hCn e.symm)); (have z4 : w4.cell? ⟨C, 0, none⟩ = some (.slice ad acc.length c) := cell_stab z3 hCb); (have f4 : ∀ o, w4.frozen? ⟨C, o, none⟩ = false := fun o => (World.frozen?_of_block (w := w2.alloc (.cells #[.slice ra ms.length rc] 51)) hCb).trans (HI3.out.fz o)); (have HPU := Lib.hid (fun u hu => HI.out.push (o := 0) (g := g) (cap := cap) (B0.trans ((HB2.out.trans ((below_alloc1 w2 (.cells #[.slice ra ms.length rc] 51)).mono HB2.out.size)).mono (by omega))) (ownsRow_le (own_below HO2.out (below_alloc1 w2 (.cells #[.slice ra ms.length rc] 51)) (Nat.le_refl _)) (by simp; omega)) hbw hg4 ho4 (by rcases hn4 with e | e; exact .inl e; exact .inr (Nat.le_of_eq e.symm)) u hu)); (have HNN : Hid (∀ k, (Value.slice (some ⟨g, 0, none⟩) (acc ++ [(ms, QA.mk ra rc)]).length cap).ownBlock = some k → (Value.slice ad acc.length c).ownBlock = some k ∨ w.heap.size ≤ k) := fun k hk => by (have e : g = k := by simpa [Value.ownBlock] using hk); subst e; rcases hn4 with e | e; exact .inl e; (have := HS2.out; simp at e; right; omega)); clear ho4 hg4 hn4 hCn hCb)
  refine hK.out _ _ ?_ (fun hHeld' => ?_)
  (focus ((try dsimp only); (first | done | ((exact trivial); done))))
  clear hK K hHeld
  have hHeld := hHeld'
  clear hHeld'
  (try simp only [Act.put, List.setIfInBounds_toArray, List.set_cons_zero, List.set_cons_succ])
  refine nextH (i := 5) (by decide +kernel) (by rfl) (by rfl) (fun K hK => ?_)
  (go_simp; (have z6 : True := trivial))
  refine hK.out _ _ ?_ (fun hHeld' => ?_)
  (focus ((try dsimp only); (first | done | ((exact trivial); done))))
  clear hK K hHeld
  have hHeld := hHeld'
  clear hHeld'
  (try simp only [Act.put, List.setIfInBounds_toArray, List.set_cons_zero, List.set_cons_succ])
  refine wpAnyH_done (by decide +kernel) ?_ _
  rotate_left
  (go_simp; go_at_call 139; (refine (copyNumbers_c ma mc ms _ (HM.out.below (Below.refl _ _).drew (Nat.le_refl _)) (by omega)).mono ?_); (rintro e w2 ⟨ra, rc, rfl, ho2, hb2⟩); (have z2 : w2.cell? ⟨C, 0, none⟩ = some (.slice ad acc.length c) := (hb2.cell (show (Addr.mk C 0 none).block < _ from hCX)).trans z0); (have HI2 := Lib.hid (HI1.out.below (below_next (Below.refl _ _).drew hb2))); (have HB2 := Lib.hid (below_next (Below.refl _ _).drew hb2)); (have HO2 := Lib.hid ho2); clear ho2 hb2)
  refine hK.out _ _ ?_ (fun hHeld' => ?_)
  (focus ((try dsimp only); (first | done | ((exact trivial); done))))
  clear hK K hHeld
  have hHeld := hHeld'
  clear hHeld'
  (try simp only [Act.put, List.setIfInBounds_toArray, List.set_cons_zero, List.set_cons_succ])
  refine bothH (i := 0) (j := 3) (by decide +kernel) (by rfl) (by rfl) (by rfl) (by rfl) (fun K hK => ?_) (fun K hK => ?_)
  (go_simp)
  refine hK.out _ _ ?_ (fun hHeld' => ?_)
  (focus ((try dsimp only); (first | done | ((exact trivial); done))))
  clear hK K hHeld
  have hHeld := hHeld'
  clear hHeld'
  (try simp only [Act.put, List.setIfInBounds_toArray, List.set_cons_zero, List.set_cons_succ])
  refine nextH (i := 3) (by decide +kernel) (by rfl) (by rfl) (fun K hK => ?_)
  (go_simp; (have HS2 : Hid (w.heap.size + 1 ≤ w2.heap.size) := by have := HB2.out.size; unfold Hid; omega); (have z3 : (w2.alloc (.cells #[.slice ra ms.length rc] 51)).cell? ⟨C, 0, none⟩ = some (.slice ad acc.length c) := ((below_alloc1 w2 (.cells #[.slice ra ms.length rc] 51)).cell (show (Addr.mk C 0 none).block < _ from (by have := HS2.out; show C < w2.heap.size; omega))).trans z2); (have HI3 := Lib.hid (HI2.out.below (below_alloc1 w2 (.cells #[.slice ra ms.length rc] 51)))); (have HMN : Hid ((w2.alloc (.cells #[.slice ra ms.length rc] 51)).ownsRow base 51 1 (.slice ad acc.length c) acc.length (flat rowRL.f acc)) := HI3.out.pcs.all _ (List.mem_cons_self ..)))
  refine hK.out _ _ ?_ (fun hHeld' => ?_)
  (focus ((try dsimp only); (first | done | ((exact trivial); done))))
  clear hK K hHeld
  have hHeld := hHeld'
  clear hHeld'
  (try simp only [Act.put, List.setIfInBounds_toArray, List.set_cons_zero, List.set_cons_succ])
  refine nextH (i := 4) (by decide +kernel) (by rfl) (by rfl) (fun K hK => ?_)
  (refine wp_append_lies _ _ _ 111 rfl base 51 i0 (.slice none 0 0) 1 24 Try.underlying111 hi hz0 hz1 hz2 rfl (by decide) _ _ _ rfl HMN.out ⟨w2.heap.size, 0, none⟩ 1 1 [.slice ra ms.length rc] rfl rfl (by intro j z hz; match j, hz with | 0, hz => (simp at hz; subst hz; simp [Addr.add])) (by intro z hz; simp at hz; subst hz; rfl) (by decide) (by unfold maxLen; omega) (by omega) (by have := HS2.out; simp; omega) _ rfl ?_; (intro g cap w4 ho4 hg4 hn4 hl4); (have hCn : ¬ (Value.slice ad acc.length c).ownBlock = some C := fun e => HI3.out.ne _ (List.mem_cons_self ..) C e rfl); (have hCb : w4.heap[C]? = (w2.alloc (.cells #[.slice ra ms.length rc] 51)).heap[C]? := hg4.block C (World.block_lt_of_cell? _ _ z3) (fun e => hCn e.symm)); (have z4 : w4.cell? ⟨C, 0, none⟩ = some (.slice ad acc.length c) := cell_stab z3 hCb); (have f4 : ∀ o, w4.frozen? ⟨C, o, none⟩ = false := fun o => (World.frozen?_of_block (w := w2.alloc (.cells #[.slice ra ms.length rc] 51)) hCb).trans (HI3.out.fz o)); (have HPU := Lib.hid (fun u hu => HI.out.push (o := 0) (g := g) (cap := cap) (B0.trans ((HB2.out.trans ((below_alloc1 w2 (.cells #[.slice ra ms.length rc] 51)).mono HB2.out.size)).mono (by omega))) (ownsRow_le (own_below HO2.out (below_alloc1 w2 (.cells #[.slice ra ms.length rc] 51)) (Nat.le_refl _)) (by simp; omega)) hbw hg4 ho4 (by rcases hn4 with e | e; exact .inl e; exact .inr (Nat.le_of_eq e.symm)) u hu)); (have HNN : Hid (∀ k, (Value.slice (some ⟨g, 0, none⟩) (acc ++ [(ms, QA.mk ra rc)]).length cap).ownBlock = some k → (Value.slice ad acc.length c).ownBlock = some k ∨ w.heap.size ≤ k) := fun k hk => by (have e : g = k := by simpa [Value.ownBlock] using hk); subst e; rcases hn4 with e | e; exact .inl e; (have := HS2.out; simp at e; right; omega)); clear ho4 hg4 hn4 hCn hCb)
  refine hK.out _ _ ?_ (fun hHeld' => ?_)
  (focus ((try dsimp only); (first | done | ((exact trivial); done))))
  clear hK K hHeld
  have hHeld := hHeld'
  clear hHeld'
  (try simp only [Act.put, List.setIfInBounds_toArray, List.set_cons_zero, List.set_cons_succ])
  refine nextH (i := 5) (by decide +kernel) (by rfl) (by rfl) (fun K hK => ?_)
  (go_simp; (have z6 : True := trivial))
  refine hK.out _ _ ?_ (fun hHeld' => ?_)
  (focus ((try dsimp only); (first | done | ((exact trivial); done))))
  clear hK K hHeld
  have hHeld := hHeld'
  clear hHeld'
  (try simp only [Act.put, List.setIfInBounds_toArray, List.set_cons_zero, List.set_cons_succ])
  refine wpAnyH_done (by decide +kernel) ?_ _
  rotate_left
  (go_simp; (have HS2 : Hid (w.heap.size + 1 ≤ w2.heap.size) := by have := HB2.out.size; unfold Hid; omega); (have z3 : (w2.alloc (.cells #[.slice ra ms.length rc] 51)).cell? ⟨C, 0, none⟩ = some (.slice ad acc.length c) := ((below_alloc1 w2 (.cells #[.slice ra ms.length rc] 51)).cell (show (Addr.mk C 0 none).block < _ from (by have := HS2.out; show C < w2.heap.size; omega))).trans z2); (have HI3 := Lib.hid (HI2.out.below (below_alloc1 w2 (.cells #[.slice ra ms.length rc] 51)))); (have HMN : Hid ((w2.alloc (.cells #[.slice ra ms.length rc] 51)).ownsRow base 51 1 (.slice ad acc.length c) acc.length (flat rowRL.f acc)) := HI3.out.pcs.all _ (List.mem_cons_self ..)))
  refine hK.out _ _ ?_ (fun hHeld' => ?_)
  (focus ((try dsimp only); (first | done | ((exact trivial); done))))
  clear hK K hHeld
  have hHeld := hHeld'
  clear hHeld'
  (try simp only [Act.put, List.setIfInBounds_toArray, List.set_cons_zero, List.set_cons_succ])
  refine nextH (i := 0) (by decide +kernel) (by rfl) (by rfl) (fun K hK => ?_)
  (go_simp)
  refine hK.out _ _ ?_ (fun hHeld' => ?_)
  (focus ((try dsimp only); (first | done | ((exact trivial); done))))
  clear hK K hHeld
  have hHeld := hHeld'
  clear hHeld'
  (try simp only [Act.put, List.setIfInBounds_toArray, List.set_cons_zero, List.set_cons_succ])
  refine nextH (i := 4) (by decide +kernel) (by rfl) (by rfl) (fun K hK => ?_)
  (refine wp_append_lies _ _ _ 111 rfl base 51 i0 (.slice none 0 0) 1 24 Try.underlying111 hi hz0 hz1 hz2 rfl (by decide) _ _ _ rfl HMN.out ⟨w2.heap.size, 0, none⟩ 1 1 [.slice ra ms.length rc] rfl rfl (by intro j z hz; match j, hz with | 0, hz => (simp at hz; subst hz; simp [Addr.add])) (by intro z hz; simp at hz; subst hz; rfl) (by decide) (by unfold maxLen; omega) (by omega) (by have := HS2.out; simp; omega) _ rfl ?_; (intro g cap w4 ho4 hg4 hn4 hl4); (have hCn : ¬ (Value.slice ad acc.length c).ownBlock = some C := fun e => HI3.out.ne _ (List.mem_cons_self ..) C e rfl); (have hCb : w4.heap[C]? = (w2.alloc (.cells #[.slice ra ms.length rc] 51)).heap[C]? := hg4.block C (World.block_lt_of_cell? _ _ z3) (fun e => hCn e.symm)); (have z4 : w4.cell? ⟨C, 0, none⟩ = some (.slice ad acc.length c) := cell_stab z3 hCb); (have f4 : ∀ o, w4.frozen? ⟨C, o, none⟩ = false := fun o => (World.frozen?_of_block (w := w2.alloc (.cells #[.slice ra ms.length rc] 51)) hCb).trans (HI3.out.fz o)); (have HPU := Lib.hid (fun u hu => HI.out.push (o := 0) (g := g) (cap := cap) (B0.trans ((HB2.out.trans ((below_alloc1 w2 (.cells #[.slice ra ms.length rc] 51)).mono HB2.out.size)).mono (by omega))) (ownsRow_le (own_below HO2.out (below_alloc1 w2 (.cells #[.slice ra ms.length rc] 51)) (Nat.le_refl _)) (by simp; omega)) hbw hg4 ho4 (by rcases hn4 with e | e; exact .inl e; exact .inr (Nat.le_of_eq e.symm)) u hu)); (have HNN : Hid (∀ k, (Value.slice (some ⟨g, 0, none⟩) (acc ++ [(ms, QA.mk ra rc)]).length cap).ownBlock = some k → (Value.slice ad acc.length c).ownBlock = some k ∨ w.heap.size ≤ k) := fun k hk => by (have e : g = k := by simpa [Value.ownBlock] using hk); subst e; rcases hn4 with e | e; exact .inl e; (have := HS2.out; simp at e; right; omega)); clear ho4 hg4 hn4 hCn hCb)
  refine hK.out _ _ ?_ (fun hHeld' => ?_)
  (focus ((try dsimp only); (first | done | ((exact trivial); done))))
  clear hK K hHeld
  have hHeld := hHeld'
  clear hHeld'
  (try simp only [Act.put, List.setIfInBounds_toArray, List.set_cons_zero, List.set_cons_succ])
  refine nextH (i := 5) (by decide +kernel) (by rfl) (by rfl) (fun K hK => ?_)
  (go_simp; (have z6 : True := trivial))
  refine hK.out _ _ ?_ (fun hHeld' => ?_)
  (focus ((try dsimp only); (first | done | ((exact trivial); done))))
  clear hK K hHeld
  have hHeld := hHeld'
  clear hHeld'
  (try simp only [Act.put, List.setIfInBounds_toArray, List.set_cons_zero, List.set_cons_succ])
  refine wpAnyH_done (by decide +kernel) ?_ _
  all_goals
    clear hHeld
    go_wp2
    go_end0
    refine ⟨rfl, [(ms, ⟨ra, rc⟩)], _, cap, rfl, (HPU.out _ (by simp)).1, (HPU.out _ (by simp)).2, HNN.out⟩

theorem app_moves2 {C B tc L : Nat} {w6 : World} {ta : Option Addr} {ms : List Int} {m : Int} (h : w6.ownsRow B 2 1 (.slice ta (ms.length + 1) tc) (ms.length + 1) (ms.map (Value.int .i64) ++ [.int .i64 m])) (hC : C < B) (hL : L ≤ B) :
    RowN C w6 ta (ms ++ [m]) ∧ (ms ++ [m]).length = ms.length + 1 ∧ ms.length + 1 ≤ tc ∧ (ta = none → ms.length + 1 = 0) ∧ ∀ b o t, ta = some ⟨b, o, t⟩ → L ≤ b := by
  obtain ⟨h1, h2, h3, h4⟩ := app_moves h hC
  refine ⟨h1, h2, h3, h4, fun b o t e => ?_⟩
  obtain ⟨g, hg, hg1, _⟩ := own_lt_n h (by omega)
  rw [hg] at e
  cases e
  omega
/-- a round over the results -/
structure EpSt (w w2 wr : World) (C base : Nat) (r : R) (d : Nat) (ms : List Int) (l : List (Mk × MA)) (k : Nat) (acc : List (List Int × QA)) (v0 : Value) (l1 : List (List Int × QA)) (ad : Option Addr) (c : Nat) (tgt : List (List Int)) : Prop where
  kl : k ≤ l.length
  go : l1.map Prod.fst ++ ((l.drop k).map Prod.fst).flatMap (fun x => pfxT r d (nxt x) (ms ++ [x.move])) = tgt
  n1 : ((acc.length + l1.length : Nat) : Int) + P8 d * ((l.length - k : Nat) : Int) ≤ 1000000000000
  inv : PInv wr C 0 base (acc ++ l1) ad c
  keep : Keep C v0 w wr
  mid : ∀ k, w.heap.size ≤ k → k < w2.heap.size → wr.heap[k]? = w2.heap[k]?
  sz : w2.heap.size ≤ wr.heap.size
  no : ∀ k, (Value.slice ad (acc ++ l1).length c).ownBlock = some k → v0.ownBlock = some k ∨ w2.heap.size ≤ k
def ElP (r : R) (C base d : Nat) : Prop := ∀ (p : P) (_ : p.ok r = true) (pa sa : Option Addr) (pc sc : Nat) (ma : Option Addr) (mc : Nat) (ms : List Int) (w : World) (acc : List (List Int × QA)) (ad : Option Addr) (c : Nat) (_ : PInv w C 0 base acc ad c) (_ : PRow w p pa sa) (_ : p.pits.length ≤ pc) (_ : pc ≤ maxLen)
    (_ : RowN C w ma ms) (_ : ∀ k, (Value.slice ad acc.length c).ownBlock = some k → ∀ b o t, ma = some ⟨b, o, t⟩ → ¬ b = k) (_ : ms.length ≤ mc) (_ : ma = none → ms.length = 0) (_ : ms.length + d ≤ 100) (_ : base ≤ w.heap.size) (_ : (acc.length : Int) + P8 d ≤ 1000000000000),
    Calls Try.prog 167 #[r.val, p.val pa pc sa sc, .int .i64 (d : Int), .slice ma ms.length mc, .func (.func 168) #[] #[.pointer (some ⟨C, 0, none⟩)]] w (PPost w C 0 base acc ad c (pfxT r d p ms))
theorem PPost.from {w W : World} {C o base : Nat} {acc : List (List Int × QA)} {ad : Option Addr} {c : Nat} {news : List (List Int)} {e : Ending} {w' : World} (h : PPost W C o base acc ad c news e w') (hb : Below w.heap.size w W) : PPost w C o base acc ad c news e w' := by
  obtain ⟨h1, l, ad', c', h2, h3, h4, h5⟩ := h
  refine ⟨h1, l, ad', c', h2, h3, (Keep.ofBelow hb).trans h4 (fun k hk => .inl hk), fun k hk => ?_⟩
  rcases h5 k hk with e | e
  · exact .inl e
  · have := hb.size; right; omega
set_option maxRecDepth 100000 in
set_option maxHeartbeats 16000000 in
theorem eachLineP_step (r : R) (C base d : Nat) (hd8 : d ≤ 8) (IH : ∀ d', d = d' + 1 → ElP r C base d') : ElP r C base d := by
  intro p hok pa sa pc sc ma mc ms w acc ad c hI hpr hc hcm hms hma hmc hmn hml hbw h1
  obtain ⟨i0, hi, hz0, hz1, hz2⟩ := info_parts infoI
  obtain ⟨m1, m2⟩ := P.ok_lens hok
  have hCl : C < w.heap.size := World.block_lt_of_cell? w _ hI.c0
  have B0 := below_alloc2 w (.cells r.cells 25) (.cells (p.cells pa pc sa sc) 67)
  have F0 := ((Fr.start w).alloc r.cells 25).alloc (p.cells pa pc sa sc) 67
  have hI1 := hI.below B0
  have h8 := P8_pos d
  have hmf : ∀ (fn : Fn) (first cap : Array Value) (w : World), (Instr.makeFunc fn first cap).run Try.prog w = .ok (.func fn first cap) w := fun _ _ _ _ => rfl
  obtain ⟨dI, hdI⟩ : ∃ dI : Int, dI = (d : Int) := ⟨_, rfl⟩
  rw [← hdI]
  obtain ⟨y, hy⟩ : ∃ y, y = pfxT r d p ms := ⟨_, rfl⟩
  rw [← hy]
  by_cases hd : d = 0
  · have hd0 : (dI == 0) = true := by simp; omega
    subst hd
    have HE : Hid (y = [ms]) := hy
    have HC := prefixes1_c C base p pa sa pc sc ma ms.length ms _ acc ad c hI1 (hms.1.below B0 (Nat.le_refl _)) (by omega) (by have := B0.size; omega) (by omega)
    have HC := Lib.hid HC
    obtain ⟨x0, x1, x2⟩ := P.boxc (F0.at 0 rfl)
    simp only [World.size_alloc] at x0 x1 x2
    have HB0 := Lib.hid B0
    have HC2 := prefixes1_c C base p pa sa pc sc ma mc ms _ acc ad c hI1 (hms.1.below B0 (Nat.le_refl _)) (by omega) (by have := B0.size; omega) (by omega)
    have HC2 := Lib.hid HC2
    clear hdI hy hok hI hI1 hpr hms hma IH B0 F0 HC
    go_enter Try.func167, Try.ntmps167
    go_wp2_with fail
    refine HC2.out.mono ?_
    rintro e w1 HPP
    have HF := Lib.hid (HPP.from HB0.out)
    obtain ⟨rfl, _⟩ := HPP
    go_wp2
    go_end0
    rw [HE.out]
    exact HF.out
  obtain ⟨d', rfl⟩ : ∃ d', d = d' + 1 := ⟨d - 1, by omega⟩
  have hd0 : (dI == 0) = false := by simp; omega
  have hsb : dI - 1 = (d' : Int) := by omega
  have hwb : IntKind.i64.wrap (d' : Int) = (d' : Int) := IntWalk.i64_in _ (by omega)
  have HIH := Lib.hid (IH d' rfl)
  have HRR := Lib.hid (results_c r p hok pa sa pc sc _ (hpr.below B0 (Nat.le_refl _)) (by omega) (by omega) hc hcm)
  have HLN := Lib.hid (allP_len8 hok)
  have HV := Lib.hid (fun x (hx : x ∈ allP r p) => allP_valid hx)
  have HI1 := Lib.hid hI1
  have HIO := Lib.hid hI.own
  have HMS := Lib.hid hms
  have HMA := Lib.hid hma
  have HY : Hid (y = (allP r p).flatMap fun x => pfxT r d' (nxt x) (ms ++ [x.move])) := hy
  have h8' := P8_pos d'
  have hm1 : ms.length + 1 ≤ 100 := by omega
  have HM1 := Lib.hid (show ms.length + 1 + d' ≤ 100 by omega)
  have HB0 := Lib.hid B0
  clear hd hdI hy hok hI hI1 hpr hms hma IH B0
  go_enter Try.func167, Try.ntmps167
  go_wp2_with fail
  refine HRR.out.mono ?_
  rintro e w2 ⟨l, lad, lc, hl, rfl, ho, hb2⟩
  have F2 := F0.step hb2
  have HL := Lib.hid hl
  have hll : l.length ≤ 8 := by
    have h1 := HLN.out
    rw [← HL.out, List.length_map] at h1
    exact h1
  obtain ⟨g, hbox, hg0, hgd⟩ := mks_box ho hb2.size
  have HGD := Lib.hid hgd
  have HBW2 := Lib.hid (below_next HB0.out hb2)
  have HMK : Hid (MksP w.heap.size w2.heap.size lad lc l w2) := ⟨ho.le (by simp; omega), fun k hk => (ho.row.lt k hk).2, fun x hx => ⟨fun k hk => ((ho.items x hx).1.pits.lt k hk).2, fun k hk => ((ho.items x hx).1.stores.lt k hk).2⟩⟩
  have HBX : Hid (BoxP g (mcells l) w2 ∧ w.heap.size ≤ g) := ⟨hbox, by simp only [World.size_alloc] at hg0; omega⟩
  have HRX : Hid (BoxP w.heap.size r.cells.toList w2) := F2.at 1 rfl
  have hw2 : w.heap.size < w2.heap.size := F2.le 1 rfl
  have hst0 : Hid (EpSt w w2 w2 C base r d' ms l 0 acc (.slice ad acc.length c) [] ad c y) := by
    refine ⟨Nat.zero_le _, ?_, ?_, ?_, Keep.ofBelow HBW2.out, fun _ _ _ => rfl, Nat.le_refl _, fun k hk => ?_⟩
    · rw [List.drop_zero, HL.out, HY.out]; rfl
    · have h1' : P8 d' * (l.length : Int) ≤ P8 d' * 8 := Int.mul_le_mul_of_nonneg_left (by omega) (by omega)
      simp only [P8] at h1
      rw [Nat.sub_zero, List.length_nil]
      omega
    · rw [List.append_nil]; exact HI1.out.below hb2
    · rw [List.append_nil] at hk; exact .inl hk
  have HVX := Lib.hid (fun x (hx : x ∈ l) => HV.out x.1 (by rw [← HL.out]; exact List.mem_map_of_mem hx))
  have hgC : ¬ g = C := by
    simp only [World.size_alloc] at hg0
    omega
  clear hb2 hl ho F0 F2 hbox hg0 hgd HV HRR HI1 HY h1 HBW2
  go_wp2_with fail
  go_loopw [22] (fun i wr => ∃ (k : Nat) (l1 : List (List Int × QA)) (ad' : Option Addr) (c' : Nat), i = .int .i64 k ∧ EpSt w w2 wr C base r d' ms l k acc (.slice ad acc.length c) l1 ad' c' y) (fun i _ => l.length - (intOf i).toNat)
  case atStart => exact ⟨0, [], ad, c, rfl, hst0.out⟩
  case round =>
    clear hst0
    obtain ⟨k, l1, ad', c', rfl, hst⟩ := hrel
    have HST := Lib.hid hst
    have hkl := hst.kl
    have hwz := hst.sz
    clear hst
    by_cases hk : k < l.length
    case neg =>
      have HT : Hid (l1.map Prod.fst = y) := by
        have h1 := HST.out.go
        rw [List.drop_eq_nil_of_le (by omega)] at h1
        unfold Hid
        simpa using h1
      go_wp2
      go_end0
      exact ⟨rfl, l1, ad', c', HT.out, HST.out.inv, HST.out.keep, fun k hk => (HST.out.no k hk).imp id (fun e => by omega)⟩
    obtain ⟨x, hx⟩ : ∃ x, l[k]? = some x := ⟨l[k], by simp [hk]⟩
    have hmk : MksP w.heap.size w2.heap.size lad lc l wr := MksP.stab _ _ _ _ _ _ _ HMK.out HST.out.mid
    obtain ⟨gb, hgb⟩ := HBX.out
    have hgw2 : g < w2.heap.size := World.block_lt_of_cell? w2 _ (box_cells gb hx).1
    have hbx : BoxP g (mcells l) wr := BoxP.stab _ _ _ _ gb (fun k h1 h2 => HST.out.mid k (by omega) (by omega))
    have hrx : BoxP w.heap.size r.cells.toList wr := BoxP.stab _ _ _ _ HRX.out (fun k h1 h2 => HST.out.mid k (by omega) (by omega))
    obtain ⟨q0, q1, q2, q3, q4, q5⟩ := box_cells hbx hx
    obtain rfl := HGD.out (by omega)
    have hki : (k : Int) < (l.length : Int) := by omega
    have hgl : g < wr.heap.size := World.block_lt_of_cell? wr _ q0
    have hrl : w.heap.size < wr.heap.size := World.block_lt_of_cell? wr _ (R.boxc hrx).c0
    have hCw : C < wr.heap.size := World.block_lt_of_cell? wr _ HST.out.inv.c0
    have hxm : x ∈ l := List.mem_of_getElem? hx
    have hit := (hmk.1.items x hxm).1
    have hcap := own_caps hit.pits
    have hVN := HVX.out x hxm
    have hs1 := HST.out.n1
    have hmul : P8 d' * ((l.length - k : Nat) : Int) = P8 d' * ((l.length - (k + 1) : Nat) : Int) + P8 d' := by
      rw [show (l.length - k : Nat) = (l.length - (k + 1)) + 1 by omega, Int.natCast_add, Int.mul_add]; simp
    have hnn : 0 ≤ P8 d' * ((l.length - (k + 1) : Nat) : Int) := Int.mul_nonneg (by omega) (by omega)
    have hub := lnT_bd r oneF oneF_bd d' (nxt x.1) hVN
    have HG : Hid (l1.map Prod.fst ++ pfxT r d' (nxt x.1) (ms ++ [x.1.move]) ++ ((l.drop (k + 1)).map Prod.fst).flatMap (fun x => pfxT r d' (nxt x) (ms ++ [x.move])) = y) := by
      have h1 := HST.out.go
      obtain ⟨hk', he⟩ := List.getElem?_eq_some_iff.1 hx
      rw [List.drop_eq_getElem_cons hk', he, List.map_cons, List.flatMap_cons, ← List.append_assoc] at h1
      exact h1
    have hownr : ∀ k, (Value.slice ad' (acc ++ l1).length c').ownBlock = some k → k < wr.heap.size ∧ (k < w.heap.size ∨ w2.heap.size ≤ k) := fun k hk => ⟨(HST.out.inv.own k hk).2, (HST.out.no k hk).imp (fun e => (HIO.out k e).2) id⟩
    have HOR := Lib.hid hownr
    have HPL : Hid (((pfxT r d' (nxt x.1) (ms ++ [x.1.move])).length : Int) ≤ P8 d') := by
      unfold Hid
      rw [pfxT_len]
      omega
    have HCC : Hid (∀ (W : World) (ta : Option Addr) (tc tl : Nat), Below wr.heap.size wr W → RowN C W ta (ms ++ [x.1.move]) → (ms ++ [x.1.move]).length = tl → tl ≤ tc → (ta = none → tl = 0) → tl + d' ≤ 100 → (∀ b o t, ta = some ⟨b, o, t⟩ → wr.heap.size ≤ b) → Calls Try.prog 167 #[r.val, (nxt x.1).val x.2.pa x.2.pc x.2.sa x.2.sc, .int .i64 (d' : Int), .slice ta tl tc, .func (.func 168) #[] #[.pointer (some ⟨C, 0, none⟩)]] W (PPost W C 0 base (acc ++ l1) ad' c' (pfxT r d' (nxt x.1) (ms ++ [x.1.move])))) := fun W ta tc tl hW ht1 ht2 ht3 ht4 ht5 ht6 => by
      subst ht2
      exact HIH.out (nxt x.1) hVN x.2.pa x.2.sa x.2.pc x.2.sc ta tc (ms ++ [x.1.move]) W (acc ++ l1) ad' c' (HST.out.inv.below hW) (hit.row.below hW (Nat.le_refl _)) hcap.1 hcap.2 ht1 (fun k hk b o t e hbk => by have h1 := (HOR.out k hk).1; have h2 := ht6 b o t e; omega) ht3 ht4 ht5 (by have := hW.size; omega) (by rw [List.length_append]; omega)
    have HN1 : Hid (((acc.length + l1.length : Nat) : Int) + P8 d' + P8 d' * ((l.length - (k + 1) : Nat) : Int) ≤ 1000000000000) := by unfold Hid; omega
    have hB5 : Below wr.heap.size wr (wr.alloc (.cells #[.int .i64 x.1.move, .int .i64 x.1.gain, .bool x.1.again, .slice x.2.pa x.1.pits.length x.2.pc, .slice x.2.sa x.1.stores.length x.2.sc, .int .i64 x.1.player] 178)) := below_alloc1 wr _
    have HB5 := Lib.hid hB5
    have HMW := Lib.hid ((HST.out.keep.ints HMS.out HMA.out).below hB5.drew (Nat.le_refl _))
    have FB := (((Fr.from (w0 := wr) (Below.refl _ _)).box hrx hrl).step hB5)
    obtain ⟨c0, c1, c2, c3, c4, c5, c6, c7, c8⟩ := R.boxc (FB.at 0 rfl)
    have FX := (Fr.start wr).alloc #[.int .i64 x.1.move, .int .i64 x.1.gain, .bool x.1.again, .slice x.2.pa x.1.pits.length x.2.pc, .slice x.2.sa x.1.stores.length x.2.sc, .int .i64 x.1.player] 178
    obtain ⟨x0, x1, x2, x3, x4, x5⟩ := (⟨FX.at 0 rfl 0 _ rfl, FX.at 0 rfl 1 _ rfl, FX.at 0 rfl 2 _ rfl, FX.at 0 rfl 3 _ rfl, FX.at 0 rfl 4 _ rfl, FX.at 0 rfl 5 _ rfl⟩ : _ ∧ _ ∧ _ ∧ _ ∧ _ ∧ _)
    clear hx hmul hnn hub hVN hs1 hit hcap hxm hmk hbx hrx gb hgb hownr
    go_wp2_with fail
    have hzX : (wr.alloc (.cells #[.int .i64 x.1.move, .int .i64 x.1.gain, .bool x.1.again, .slice x.2.pa x.1.pits.length x.2.pc, .slice x.2.sa x.1.stores.length x.2.sc, .int .i64 x.1.player] 178)).heap.size = wr.heap.size + 1 := by simp
    have hgl1 : g < wr.heap.size + 1 := by omega
    have hrl1 : w.heap.size < wr.heap.size + 1 := by omega
    have hnA : ¬ w.heap.size = C := by omega
    have hnB : ¬ wr.heap.size = C := by omega
    have hnC : ¬ (Value.slice ad' (acc ++ l1).length c').ownBlock = some w.heap.size := fun e => by have := (HOR.out _ e).2; omega
    have hnD : ¬ (Value.slice ad' (acc ++ l1).length c').ownBlock = some wr.heap.size := fun e => by have := (HOR.out _ e).1; omega
    have HKP : Hid (∀ W : World, (∀ o, W.cell? ⟨w.heap.size, o, none⟩ = (wr.alloc (.cells #[.int .i64 x.1.move, .int .i64 x.1.gain, .bool x.1.again, .slice x.2.pa x.1.pits.length x.2.pc, .slice x.2.sa x.1.stores.length x.2.sc, .int .i64 x.1.player] 178)).cell? ⟨w.heap.size, o, none⟩) → (∀ o, W.cell? ⟨wr.heap.size, o, none⟩ = (wr.alloc (.cells #[.int .i64 x.1.move, .int .i64 x.1.gain, .bool x.1.again, .slice x.2.pa x.1.pits.length x.2.pc, .slice x.2.sa x.1.stores.length x.2.sc, .int .i64 x.1.player] 178)).cell? ⟨wr.heap.size, o, none⟩) → (W.cell? ⟨w.heap.size, 0, none⟩ = some (.int .i64 r.pits) ∧ W.cell? ⟨w.heap.size, 1, none⟩ = some (.int .i64 r.seeds) ∧ W.cell? ⟨w.heap.size, 2, none⟩ = some (.bool r.stores) ∧ W.cell? ⟨w.heap.size, 3, none⟩ = some (.bool r.skip) ∧ W.cell? ⟨w.heap.size, 4, none⟩ = some (.bool r.relay) ∧ W.cell? ⟨w.heap.size, 5, none⟩ = some (.bool r.feed) ∧ W.cell? ⟨w.heap.size, 6, none⟩ = some (.bool r.again) ∧ W.cell? ⟨w.heap.size, 7, none⟩ = some (.int .i64 r.capture) ∧ W.cell? ⟨w.heap.size, 8, none⟩ = some (.int .i64 r.slam) ∧ W.cell? ⟨wr.heap.size, 0, none⟩ = some (.int .i64 x.1.move) ∧ W.cell? ⟨wr.heap.size, 1, none⟩ = some (.int .i64 x.1.gain) ∧ W.cell? ⟨wr.heap.size, 2, none⟩ = some (.bool x.1.again) ∧ W.cell? ⟨wr.heap.size, 3, none⟩ = some (.slice x.2.pa x.1.pits.length x.2.pc) ∧ W.cell? ⟨wr.heap.size, 4, none⟩ = some (.slice x.2.sa x.1.stores.length x.2.sc) ∧ W.cell? ⟨wr.heap.size, 5, none⟩ = some (.int .i64 x.1.player))) := fun W H1 H2 =>
      ⟨(H1 _).trans c0, (H1 _).trans c1, (H1 _).trans c2, (H1 _).trans c3, (H1 _).trans c4, (H1 _).trans c5, (H1 _).trans c6, (H1 _).trans c7, (H1 _).trans c8, (H2 _).trans x0, (H2 _).trans x1, (H2 _).trans x2, (H2 _).trans x3, (H2 _).trans x4, (H2 _).trans x5⟩
    clear c0 c1 c2 c3 c4 c5 c6 c7 c8 x0 x1 x2 x3 x4 x5 q0 q1 q2 q3 q4 q5 FB FX
    generalize hXd : (wr.alloc (.cells #[.int .i64 x.1.move, .int .i64 x.1.gain, .bool x.1.again, .slice x.2.pa x.1.pits.length x.2.pc, .slice x.2.sa x.1.stores.length x.2.sc, .int .i64 x.1.player] 178)) = X at *
    have hsl : ∀ W : World, (Instr.slice 51 (.slice ma ms.length mc) none (some (.int .i64 (ms.length : Int))) (some (.int .i64 (ms.length : Int)))).run Try.prog W = .ok (.slice ma ms.length ms.length) W := by
      exact slice_front ma ms.length mc hmc
    refine heldH (S := fun W => W.cell? ⟨w.heap.size, 0, none⟩ = some (.int .i64 r.pits) ∧ W.cell? ⟨w.heap.size, 1, none⟩ = some (.int .i64 r.seeds) ∧ W.cell? ⟨w.heap.size, 2, none⟩ = some (.bool r.stores) ∧ W.cell? ⟨w.heap.size, 3, none⟩ = some (.bool r.skip) ∧ W.cell? ⟨w.heap.size, 4, none⟩ = some (.bool r.relay) ∧ W.cell? ⟨w.heap.size, 5, none⟩ = some (.bool r.feed) ∧ W.cell? ⟨w.heap.size, 6, none⟩ = some (.bool r.again) ∧ W.cell? ⟨w.heap.size, 7, none⟩ = some (.int .i64 r.capture) ∧ W.cell? ⟨w.heap.size, 8, none⟩ = some (.int .i64 r.slam) ∧ W.cell? ⟨wr.heap.size, 0, none⟩ = some (.int .i64 x.1.move) ∧ W.cell? ⟨wr.heap.size, 1, none⟩ = some (.int .i64 x.1.gain) ∧ W.cell? ⟨wr.heap.size, 2, none⟩ = some (.bool x.1.again) ∧ W.cell? ⟨wr.heap.size, 3, none⟩ = some (.slice x.2.pa x.1.pits.length x.2.pc) ∧ W.cell? ⟨wr.heap.size, 4, none⟩ = some (.slice x.2.sa x.1.stores.length x.2.sc) ∧ W.cell? ⟨wr.heap.size, 5, none⟩ = some (.int .i64 x.1.player)) (n := 17) (listed := #[false, false, false, false, false, false, false, false, false, false, false, false, false, false, false, false, false]) (by kernel_rfl) (by rfl) (by rfl) ?_ (fun hHeld => ?_)
    (focus ((try dsimp only); (first | done | ((first | exact HKP.out _ (fun o => hcD _ _ (by omega) hnA hnC) (fun o => hcD _ _ (by omega) hnB hnD) | exact HKP.out _ (fun o => hcC _ _ (by omega)) (fun o => hcC _ _ (by omega)) | exact HKP.out _ (fun o => hcB _ _ (by omega)) (fun o => hcB _ _ (by omega)) | exact HKP.out _ (fun o => rfl) (fun o => rfl)); done))))
    (refine takeH (i := 0) (v := ?_) (by decide +kernel) (by decide +kernel) (by kernel_rfl) (by rfl) (by exact fun _ _ _ h => h) (by rfl) ?_ (by assumption) ?_); rotate_left; (focus (intro w hSw; (try dsimp only at hSw); go_simp; (try with_reducible rfl); done)); (try simp only [Act.put, List.setIfInBounds_toArray, List.set_cons_zero, List.set_cons_succ])
    (refine takeH (i := 1) (v := ?_) (by decide +kernel) (by decide +kernel) (by kernel_rfl) (by rfl) (by exact fun _ _ _ h => h) (by rfl) ?_ (by assumption) ?_); rotate_left; (focus (intro w hSw; (try dsimp only at hSw); go_simp; (try with_reducible rfl); done)); (try simp only [Act.put, List.setIfInBounds_toArray, List.set_cons_zero, List.set_cons_succ])
    (refine takeH (i := 2) (v := ?_) (by decide +kernel) (by decide +kernel) (by kernel_rfl) (by rfl) (by exact fun _ _ _ h => h) (by rfl) ?_ (by assumption) ?_); rotate_left; (focus (intro w hSw; (try dsimp only at hSw); go_simp; (try with_reducible rfl); done)); (try simp only [Act.put, List.setIfInBounds_toArray, List.set_cons_zero, List.set_cons_succ])
    (refine takeH (i := 3) (v := ?_) (by decide +kernel) (by decide +kernel) (by kernel_rfl) (by rfl) (by exact fun _ _ _ h => h) (by rfl) ?_ (by assumption) ?_); rotate_left; (focus (intro w hSw; (try dsimp only at hSw); go_simp; (try with_reducible rfl); done)); (try simp only [Act.put, List.setIfInBounds_toArray, List.set_cons_zero, List.set_cons_succ])
    (refine takeH (i := 4) (v := ?_) (by decide +kernel) (by decide +kernel) (by kernel_rfl) (by rfl) (by exact fun _ _ _ h => h) (by rfl) ?_ (by assumption) ?_); rotate_left; (focus (intro w hSw; (try dsimp only at hSw); go_simp; (try with_reducible rfl); done)); (try simp only [Act.put, List.setIfInBounds_toArray, List.set_cons_zero, List.set_cons_succ])
    (refine takeH (i := 5) (v := ?_) (by decide +kernel) (by decide +kernel) (by kernel_rfl) (by rfl) (by exact fun _ _ _ h => h) (by rfl) ?_ (by assumption) ?_); rotate_left; (focus (intro w hSw; (try dsimp only at hSw); go_simp; (try with_reducible rfl); done)); (try simp only [Act.put, List.setIfInBounds_toArray, List.set_cons_zero, List.set_cons_succ])
    (refine takeH (i := 6) (v := ?_) (by decide +kernel) (by decide +kernel) (by kernel_rfl) (by rfl) (by exact fun _ _ _ h => h) (by rfl) ?_ (by assumption) ?_); rotate_left; (focus (intro w hSw; (try dsimp only at hSw); go_simp; (try with_reducible rfl); done)); (try simp only [Act.put, List.setIfInBounds_toArray, List.set_cons_zero, List.set_cons_succ])
    (refine takeH (i := 7) (v := ?_) (by decide +kernel) (by decide +kernel) (by kernel_rfl) (by rfl) (by exact fun _ _ _ h => h) (by rfl) ?_ (by assumption) ?_); rotate_left; (focus (intro w hSw; (try dsimp only at hSw); go_simp; (try with_reducible rfl); done)); (try simp only [Act.put, List.setIfInBounds_toArray, List.set_cons_zero, List.set_cons_succ])
    (refine takeH (i := 8) (v := ?_) (by decide +kernel) (by decide +kernel) (by kernel_rfl) (by rfl) (by exact fun _ _ _ h => h) (by rfl) ?_ (by assumption) ?_); rotate_left; (focus (intro w hSw; (try dsimp only at hSw); go_simp; (try with_reducible rfl); done)); (try simp only [Act.put, List.setIfInBounds_toArray, List.set_cons_zero, List.set_cons_succ])
    (refine takeH (i := 9) (v := ?_) (by decide +kernel) (by decide +kernel) (by kernel_rfl) (by rfl) (by exact fun _ _ _ h => h) (by rfl) ?_ (by assumption) ?_); rotate_left; (focus (intro w hSw; (try dsimp only at hSw); go_simp; (try with_reducible rfl); done)); (try simp only [Act.put, List.setIfInBounds_toArray, List.set_cons_zero, List.set_cons_succ])
    (refine takeH (i := 10) (v := ?_) (by decide +kernel) (by decide +kernel) (by kernel_rfl) (by rfl) (by exact fun _ _ _ h => h) (by rfl) ?_ (by assumption) ?_); rotate_left; (focus (intro w hSw; (try dsimp only at hSw); go_simp; (try with_reducible rfl); done)); (try simp only [Act.put, List.setIfInBounds_toArray, List.set_cons_zero, List.set_cons_succ])
    (refine takeH (i := 11) (v := ?_) (by decide +kernel) (by decide +kernel) (by kernel_rfl) (by rfl) (by exact fun _ _ _ h => h) (by rfl) ?_ (by assumption) ?_); rotate_left; (focus (intro w hSw; (try dsimp only at hSw); go_simp; (try with_reducible rfl); done)); (try simp only [Act.put, List.setIfInBounds_toArray, List.set_cons_zero, List.set_cons_succ])
    (refine takeH (i := 12) (v := ?_) (by decide +kernel) (by decide +kernel) (by kernel_rfl) (by rfl) (by exact fun _ _ _ h => h) (by rfl) ?_ (by assumption) ?_); rotate_left; (focus (intro w hSw; (try dsimp only at hSw); go_simp; (try with_reducible rfl); done)); (try simp only [Act.put, List.setIfInBounds_toArray, List.set_cons_zero, List.set_cons_succ])
    (refine takeH (i := 15) (v := ?_) (by decide +kernel) (by decide +kernel) (by kernel_rfl) (by rfl) (by exact fun _ _ _ h => h) (by rfl) ?_ (by assumption) ?_); rotate_left; (focus (intro w hSw; (try dsimp only at hSw); go_simp; (try with_reducible rfl); done)); (try simp only [Act.put, List.setIfInBounds_toArray, List.set_cons_zero, List.set_cons_succ])
    refine nextH (i := 13) (by decide +kernel) (by rfl) (by rfl) (fun K hK => ?_)
    (first | ((refine wp_append_grows _ _ _ 51 rfl 2 i0 _ 1 8 Try.underlying51 hi hz0 hz1 hz2 rfl (by decide) ma ms.length ms.length (ms.map (Value.int .i64)) rfl HMZ.out.1 (by simp) HMZ.out.2 ⟨wr.heap.size + 1, 0, none⟩ 1 1 [.int .i64 x.1.move] rfl rfl (by intro j z hz; match j, hz with | 0, hz => (simp at hz; subst hz; simp [Addr.add, ← hzX])) (by intro z hz; simp at hz; subst hz; rfl) (by omega) (by unfold maxLen; omega) (by omega) ?_); (intro ta tc w6 hown6 hg6); (have HT6 := Lib.hid (app_moves2 hown6 (show C < _ by simp; omega) (show wr.heap.size ≤ _ by simp; omega))); (have HB6 : Hid (Below wr.heap.size wr w6 ∧ wr.heap.size + 1 ≤ w6.heap.size) := ⟨below_next (below_next HB5.out (below_alloc1 X (.cells #[.int .i64 x.1.move] 2)).drew) (grown_none hg6), by have := hg6.size; simp at this; omega⟩); (have hcC : ∀ b o, b < wr.heap.size + 1 → w6.cell? ⟨b, o, none⟩ = X.cell? ⟨b, o, none⟩ := fun b o h => ((grown_none hg6).cell (show (Addr.mk b o none).block < _ from (by simp; omega))).trans (hcB b o h)); clear hown6 hg6) | (go_simp; (first | (go_at_call 167; (refine (HCC.out _ ta tc _ HB6.out.1 HT6.out.1 HT6.out.2.1 HT6.out.2.2.1 HT6.out.2.2.2.1 HM1.out HT6.out.2.2.2.2).mono ?_); (rintro e w7 ⟨rfl, l2, ad2, c2, hl2, hI7, hK7, hn7⟩); (have hcD : ∀ b o, b < wr.heap.size + 1 → ¬ b = C → ¬ (Value.slice ad' (acc ++ l1).length c').ownBlock = some b → w7.cell? ⟨b, o, none⟩ = X.cell? ⟨b, o, none⟩ := fun b o h1 h2 h3 => (World.cell?_of_block (w := w6) (hK7.block b (by have := HB6.out.2; omega) h2 h3)).trans (hcC b o h1))) | ((have hcB : ∀ b o, b < wr.heap.size + 1 → ((X.alloc (.cells #[.int .i64 x.1.move] 2)).drew).cell? ⟨b, o, none⟩ = X.cell? ⟨b, o, none⟩ := fun b o h => (below_alloc1 X (.cells #[.int .i64 x.1.move] 2)).cell (show (Addr.mk b o none).block < _ from (by rw [hzX]; exact h))); (have HMZ : Hid ((ma = none → ms.length = 0 ∧ ms.length = 0) ∧ (∀ b, ma = some b → ∀ j u, (ms.map (Value.int .i64))[j]? = some u → ((X.alloc (.cells #[.int .i64 x.1.move] 2)).drew).cell? (b.add j) = some u)) := ⟨fun e => ⟨hmn e, hmn e⟩, row_holds (HMW.out.below (below_alloc1 X.drew (.cells #[.int .i64 x.1.move] 2)) (Nat.le_refl _)).1⟩)))))
    refine hK.out _ _ ?_ (fun hHeld' => ?_)
    (focus ((try dsimp only); (first | done | ((first | exact HKP.out _ (fun o => hcD _ _ (by omega) hnA hnC) (fun o => hcD _ _ (by omega) hnB hnD) | exact HKP.out _ (fun o => hcC _ _ (by omega)) (fun o => hcC _ _ (by omega)) | exact HKP.out _ (fun o => hcB _ _ (by omega)) (fun o => hcB _ _ (by omega)) | exact HKP.out _ (fun o => rfl) (fun o => rfl)); done))))
    clear hK K hHeld
    have hHeld := hHeld'
    clear hHeld'
    (try simp only [Act.put, List.setIfInBounds_toArray, List.set_cons_zero, List.set_cons_succ])
    refine nextH (i := 14) (by decide +kernel) (by rfl) (by rfl) (fun K hK => ?_)
    (first | ((refine wp_append_grows _ _ _ 51 rfl 2 i0 _ 1 8 Try.underlying51 hi hz0 hz1 hz2 rfl (by decide) ma ms.length ms.length (ms.map (Value.int .i64)) rfl HMZ.out.1 (by simp) HMZ.out.2 ⟨wr.heap.size + 1, 0, none⟩ 1 1 [.int .i64 x.1.move] rfl rfl (by intro j z hz; match j, hz with | 0, hz => (simp at hz; subst hz; simp [Addr.add, ← hzX])) (by intro z hz; simp at hz; subst hz; rfl) (by omega) (by unfold maxLen; omega) (by omega) ?_); (intro ta tc w6 hown6 hg6); (have HT6 := Lib.hid (app_moves2 hown6 (show C < _ by simp; omega) (show wr.heap.size ≤ _ by simp; omega))); (have HB6 : Hid (Below wr.heap.size wr w6 ∧ wr.heap.size + 1 ≤ w6.heap.size) := ⟨below_next (below_next HB5.out (below_alloc1 X (.cells #[.int .i64 x.1.move] 2)).drew) (grown_none hg6), by have := hg6.size; simp at this; omega⟩); (have hcC : ∀ b o, b < wr.heap.size + 1 → w6.cell? ⟨b, o, none⟩ = X.cell? ⟨b, o, none⟩ := fun b o h => ((grown_none hg6).cell (show (Addr.mk b o none).block < _ from (by simp; omega))).trans (hcB b o h)); clear hown6 hg6) | (go_simp; (first | (go_at_call 167; (refine (HCC.out _ ta tc _ HB6.out.1 HT6.out.1 HT6.out.2.1 HT6.out.2.2.1 HT6.out.2.2.2.1 HM1.out HT6.out.2.2.2.2).mono ?_); (rintro e w7 ⟨rfl, l2, ad2, c2, hl2, hI7, hK7, hn7⟩); (have hcD : ∀ b o, b < wr.heap.size + 1 → ¬ b = C → ¬ (Value.slice ad' (acc ++ l1).length c').ownBlock = some b → w7.cell? ⟨b, o, none⟩ = X.cell? ⟨b, o, none⟩ := fun b o h1 h2 h3 => (World.cell?_of_block (w := w6) (hK7.block b (by have := HB6.out.2; omega) h2 h3)).trans (hcC b o h1))) | ((have hcB : ∀ b o, b < wr.heap.size + 1 → ((X.alloc (.cells #[.int .i64 x.1.move] 2)).drew).cell? ⟨b, o, none⟩ = X.cell? ⟨b, o, none⟩ := fun b o h => (below_alloc1 X (.cells #[.int .i64 x.1.move] 2)).cell (show (Addr.mk b o none).block < _ from (by rw [hzX]; exact h))); (have HMZ : Hid ((ma = none → ms.length = 0 ∧ ms.length = 0) ∧ (∀ b, ma = some b → ∀ j u, (ms.map (Value.int .i64))[j]? = some u → ((X.alloc (.cells #[.int .i64 x.1.move] 2)).drew).cell? (b.add j) = some u)) := ⟨fun e => ⟨hmn e, hmn e⟩, row_holds (HMW.out.below (below_alloc1 X.drew (.cells #[.int .i64 x.1.move] 2)) (Nat.le_refl _)).1⟩)))))
    refine hK.out _ _ ?_ (fun hHeld' => ?_)
    (focus ((try dsimp only); (first | done | ((first | exact HKP.out _ (fun o => hcD _ _ (by omega) hnA hnC) (fun o => hcD _ _ (by omega) hnB hnD) | exact HKP.out _ (fun o => hcC _ _ (by omega)) (fun o => hcC _ _ (by omega)) | exact HKP.out _ (fun o => hcB _ _ (by omega)) (fun o => hcB _ _ (by omega)) | exact HKP.out _ (fun o => rfl) (fun o => rfl)); done))))
    clear hK K hHeld
    have hHeld := hHeld'
    clear hHeld'
    (try simp only [Act.put, List.setIfInBounds_toArray, List.set_cons_zero, List.set_cons_succ])
    refine nextH (i := 16) (by decide +kernel) (by rfl) (by rfl) (fun K hK => ?_)
    (first | ((refine wp_append_grows _ _ _ 51 rfl 2 i0 _ 1 8 Try.underlying51 hi hz0 hz1 hz2 rfl (by decide) ma ms.length ms.length (ms.map (Value.int .i64)) rfl HMZ.out.1 (by simp) HMZ.out.2 ⟨wr.heap.size + 1, 0, none⟩ 1 1 [.int .i64 x.1.move] rfl rfl (by intro j z hz; match j, hz with | 0, hz => (simp at hz; subst hz; simp [Addr.add, ← hzX])) (by intro z hz; simp at hz; subst hz; rfl) (by omega) (by unfold maxLen; omega) (by omega) ?_); (intro ta tc w6 hown6 hg6); (have HT6 := Lib.hid (app_moves2 hown6 (show C < _ by simp; omega) (show wr.heap.size ≤ _ by simp; omega))); (have HB6 : Hid (Below wr.heap.size wr w6 ∧ wr.heap.size + 1 ≤ w6.heap.size) := ⟨below_next (below_next HB5.out (below_alloc1 X (.cells #[.int .i64 x.1.move] 2)).drew) (grown_none hg6), by have := hg6.size; simp at this; omega⟩); (have hcC : ∀ b o, b < wr.heap.size + 1 → w6.cell? ⟨b, o, none⟩ = X.cell? ⟨b, o, none⟩ := fun b o h => ((grown_none hg6).cell (show (Addr.mk b o none).block < _ from (by simp; omega))).trans (hcB b o h)); clear hown6 hg6) | (go_simp; (first | (go_at_call 167; (refine (HCC.out _ ta tc _ HB6.out.1 HT6.out.1 HT6.out.2.1 HT6.out.2.2.1 HT6.out.2.2.2.1 HM1.out HT6.out.2.2.2.2).mono ?_); (rintro e w7 ⟨rfl, l2, ad2, c2, hl2, hI7, hK7, hn7⟩); (have hcD : ∀ b o, b < wr.heap.size + 1 → ¬ b = C → ¬ (Value.slice ad' (acc ++ l1).length c').ownBlock = some b → w7.cell? ⟨b, o, none⟩ = X.cell? ⟨b, o, none⟩ := fun b o h1 h2 h3 => (World.cell?_of_block (w := w6) (hK7.block b (by have := HB6.out.2; omega) h2 h3)).trans (hcC b o h1))) | ((have hcB : ∀ b o, b < wr.heap.size + 1 → ((X.alloc (.cells #[.int .i64 x.1.move] 2)).drew).cell? ⟨b, o, none⟩ = X.cell? ⟨b, o, none⟩ := fun b o h => (below_alloc1 X (.cells #[.int .i64 x.1.move] 2)).cell (show (Addr.mk b o none).block < _ from (by rw [hzX]; exact h))); (have HMZ : Hid ((ma = none → ms.length = 0 ∧ ms.length = 0) ∧ (∀ b, ma = some b → ∀ j u, (ms.map (Value.int .i64))[j]? = some u → ((X.alloc (.cells #[.int .i64 x.1.move] 2)).drew).cell? (b.add j) = some u)) := ⟨fun e => ⟨hmn e, hmn e⟩, row_holds (HMW.out.below (below_alloc1 X.drew (.cells #[.int .i64 x.1.move] 2)) (Nat.le_refl _)).1⟩)))))
    refine hK.out _ _ ?_ (fun hHeld' => ?_)
    (focus ((try dsimp only); (first | done | ((first | exact HKP.out _ (fun o => hcD _ _ (by omega) hnA hnC) (fun o => hcD _ _ (by omega) hnB hnD) | exact HKP.out _ (fun o => hcC _ _ (by omega)) (fun o => hcC _ _ (by omega)) | exact HKP.out _ (fun o => hcB _ _ (by omega)) (fun o => hcB _ _ (by omega)) | exact HKP.out _ (fun o => rfl) (fun o => rfl)); done))))
    clear hK K hHeld
    have hHeld := hHeld'
    clear hHeld'
    (try simp only [Act.put, List.setIfInBounds_toArray, List.set_cons_zero, List.set_cons_succ])
    refine wpAnyH_done (by decide +kernel) ?_ _
    have HN : Hid (EpSt w w2 w7 C base r d' ms l (k + 1) acc (.slice ad acc.length c) (l1 ++ l2) ad2 c2 y) := by
      have hz6 := HB6.out.1.size
      have hl2l : (l2.length : Int) ≤ P8 d' := by
        have h1 := HPL.out
        rw [← hl2, List.length_map] at h1
        exact h1
      refine ⟨by omega, ?_, ?_, ?_, ?_, fun q h1 h2 => ?_, ?_, fun q hq => ?_⟩
      · rw [List.map_append, hl2]
        exact HG.out
      · have h1 := HN1.out
        rw [List.length_append]
        omega
      · rw [← List.append_assoc]
        exact hI7
      · exact ((HST.out.keep.trans (Keep.ofBelow (v := .slice ad acc.length c) HB6.out.1) (fun k hk => .inl hk)).trans hK7 (fun k hk => (HST.out.no k hk).imp id (fun e => by omega)))
      · have h3 : q < wr.heap.size := by omega
        refine (hK7.block q (by omega) (by omega) (fun e => ?_)).trans ((HB6.out.1.block q h3).trans (HST.out.mid q h1 h2))
        have := (HOR.out q e).2
        omega
      · have := hK7.size; omega
      · rw [← List.append_assoc] at hq
        rcases hn7 q hq with e | e
        · exact HST.out.no q e
        · right; omega
    clear HCC hcB hcC hcD hI7 hK7 hn7 hl2 HT6 HB6 HMZ hHeld hXd HB5 HMW
    go_wp2
    go_roundw
    case rel => exact ⟨k + 1, l1 ++ l2, ad2, c2, by go_num, HN.out⟩
    case measure => (simp [intOf]; omega)
theorem eachLineP_c (r : R) (C base : Nat) : ∀ (d : Nat), d ≤ 8 → ElP r C base d
  | 0, h => eachLineP_step r C base 0 h (fun d' e => absurd e (by omega))
  | d + 1, h => eachLineP_step r C base (d + 1) h (fun d' e => by
    obtain rfl : d = d' := by omega
    exact eachLineP_c r C base d (by omega))

def PfxRes2 (w : World) (y : List (List Int) × Int) (e : Ending) (w' : World) : Prop := ∃ (l : List (List Int × QA)) (ad : Option Addr) (c : Nat), l.map Prod.fst = y.1 ∧ e = .returned (.tuple #[.slice ad l.length c, .int .i64 y.2]) ∧ Pcs w' w.heap.size (rowRL.pcs ad c l) ∧ Below w.heap.size w w'
theorem pfx_nil (w : World) (base : Nat) : Pcs w base (rowRL.pcs none 0 []) := ⟨fun q hq => by
  obtain rfl := List.mem_singleton.1 hq
  exact World.ownsRow_nil _ _ _ _, List.pairwise_singleton _ _⟩
theorem pfx_none (w : World) (base : Nat) (h : base ≤ w.heap.size) : Pcs (w.alloc (.cells #[] 51)) base (rowRL.pcs (some ⟨w.heap.size, 0, none⟩) 0 []) := ⟨fun q hq => by
  obtain rfl := List.mem_singleton.1 hq
  exact World.ownsRow_lit (base := base) (e := 51) (size := 1) w #[] 0 h (Nat.zero_le _) rfl, List.pairwise_singleton _ _⟩
set_option maxRecDepth 100000 in
set_option maxHeartbeats 8000000 in
theorem iPrefixesOf_c (r : R) (p : P) (d : Int) (pa sa : Option Addr) (pc sc : Nat) (w : World) (h : PRow w p pa sa) (m1 : p.pits.length ≤ 16777216) (m2 : p.stores.length ≤ 16777216) (hc : p.pits.length ≤ pc) (hcm : pc ≤ maxLen) :
    Calls Try.prog 85 #[r.val, p.val pa pc sa sc, .int .i64 d] w (PfxRes2 w (pfxP r p d)) := by
  have F0 := ((Fr.start w).alloc r.cells 25).alloc (p.cells pa pc sa sc) 67
  have HC := fun W (H : PRow W p pa sa) => searchCode_c r p d pa sa pc sc W H m1 m2 hc hcm
  obtain ⟨c, hcd⟩ : ∃ c, c = srchC r p d := ⟨_, rfl⟩
  rw [← hcd] at HC
  have HC := Lib.hid HC
  obtain ⟨y, hy⟩ : ∃ y, y = pfxP r p d := ⟨_, rfl⟩
  rw [← hy]
  by_cases hz : c = 0
  case neg =>
    have hz' : (c != 0) = true := by simpa using hz
    have HE : Hid (y = ([], c)) := by unfold Hid; rw [hy, pfxP, ← hcd, if_neg hz]
    clear hcd hy hz
    go_enter Try.func85, Try.ntmps85
    go_wp2_with fail
    refine (HC.out _ (h.below F0.below (Nat.le_refl _))).mono ?_
    rintro e w1 ⟨rfl, hb1⟩
    have F1 := F0.step hb1
    clear hb1 F0
    go_wp2
    go_ret2
    rw [HE.out]
    exact ⟨[], none, 0, rfl, rfl, pfx_nil _ _, F1.below⟩
  have hz' : (c != 0) = false := by simpa using hz
  obtain ⟨hok, D, hdD, hD, _⟩ := srchC_zero (by rw [← hcd]; exact hz)
  have HY : Hid (y = (pfxT r D p [], 0)) := by
    unfold Hid
    rw [hy, pfxP, ← hcd, if_pos hz, hdD, show ((D : Int)).toNat = D by omega]
  have HEL := eachLineP_c r
  have hp8 := P8_le D (by omega)
  have hmf : ∀ (fn : Fn) (first cap : Array Value) (w : World), (Instr.makeFunc fn first cap).run Try.prog w = .ok (.func fn first cap) w := fun _ _ _ _ => rfl
  have HOK := Lib.hid hok
  have HH := Lib.hid h
  have HEL := Lib.hid (fun C base => eachLineP_c r C base D hD)
  clear hcd hy hz hok h
  subst hdD
  go_enter Try.func85, Try.ntmps85
  go_wp2_with fail
  refine (HC.out _ (HH.out.below F0.below (Nat.le_refl _))).mono ?_
  rintro e w1 ⟨rfl, hb1⟩
  have F1 := F0.step hb1
  have hs1 : w.heap.size ≤ w1.heap.size := F1.below.size
  have F2 := (F1.step (below_alloc1 w1 (.cells #[] 51))).allocF #[.slice (some ⟨w1.heap.size, 0, none⟩) 0 0] 111
  obtain ⟨bx, bf⟩ := F2.at 0 rfl
  simp only [World.size_alloc] at bx bf
  have hI : PInv ((w1.alloc (.cells #[] 51)).alloc (.cells #[.slice (some ⟨w1.heap.size, 0, none⟩) 0 0] 111)) (w1.heap.size + 1) 0 w.heap.size [] (some ⟨w1.heap.size, 0, none⟩) 0 :=
    ⟨bx 0 _ rfl, bf, (pfx_none w1 w.heap.size hs1).same (fun q hq k hk => by
      obtain rfl := List.mem_singleton.1 hq
      have : w1.heap.size = k := by simpa [Value.ownBlock] using hk
      exact (below_alloc1 (w1.alloc (.cells #[] 51)) _).block k (by simp; omega)), fun q hq k hk e => by
      obtain rfl := List.mem_singleton.1 hq
      have : w1.heap.size = k := by simpa [Value.ownBlock] using hk
      omega⟩
  have HW := Lib.hid (HEL.out (w1.heap.size + 1) w.heap.size p HOK.out pa sa pc sc none 0 [] _ [] _ 0 hI (HH.out.below F2.below (Nat.le_refl _)) hc hcm (none_rowN _ _) (fun k hk b o t e => by cases e) (by simp) (fun _ => rfl) (by simp; omega) F2.below.size (by simp; omega))
  have zA : w.heap.size < w1.heap.size := F1.le 1 rfl
  have zB : w.heap.size + 1 < w1.heap.size := by have := F1.le 0 rfl; simp at this; omega
  obtain ⟨c0, c1, c2, c3, c4, c5, c6, c7, c8⟩ := R.boxc (F1.at 1 rfl)
  obtain ⟨e0, e1, e2⟩ := P.boxc (F1.at 0 rfl)
  simp only [World.size_alloc] at e0 e1 e2
  have HB2 := Lib.hid F2.below
  clear hb1 F0 F1 F2 bx bf hI HEL HC
  go_wp2_with fail
  refine HW.out.mono ?_
  rintro e w3 ⟨rfl, l, ad, cc, hl, hI3, hK3, hn3⟩
  have z0 := hI3.c0
  have HF : Hid (l.map Prod.fst = pfxT r D p [] ∧ Pcs w3 w.heap.size (rowRL.pcs ad cc l) ∧ Below w.heap.size w w3) :=
    ⟨hl, by simpa using hI3.pcs, hK3.below HB2.out (by omega) (fun k hk => by
      have : w1.heap.size = k := by simpa [Value.ownBlock] using hk
      omega)⟩
  simp only [List.nil_append] at z0
  clear hl hI3 hK3 hn3 c0 c1 c2 c3 c4 c5 c6 c7 c8 e0 e1 e2 HW
  go_wp2
  go_ret2
  rw [HY.out]
  exact ⟨l, ad, cc, HF.out.1, rfl, HF.out.2.1, HF.out.2.2⟩

end Go.Proofs.Ytbjdfgfebepacaa
