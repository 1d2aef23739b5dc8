/- FcT: the facts of a lap, as the program tells them. The contract holds for every argument, under the premises that it states. -/
import Derived.Test.YtbjgigdkbjabaaaFcG
import Derived.Test.YtbjgigdkbjabaaaLapK
import Derived.Maps.OwnSet
import Derived.WalkArith
namespace Go.Proofs.Ytbjgigdkbjabaaa
set_option linter.unusedSimpArgs false
set_option linter.unusedVariables false
set_option linter.unnecessarySimpa false
open Go.RowKit Go.ChangeShapes Go.WideShapes Go.ChangeAt Go.Joins

/-! ### the map of a lap: where the fact of a place stands -/
structure MapOk (D : DataW Unit) (b : Nat) (T : List Int) : Prop where
  mp : Maps.IsMap D
  has : ∀ q : Int, Maps.has D (.int .i64 q) = inF q (sowsF T)
  at_ : ∀ q : Int, inF q (sowsF T) = true → D.atKey (.int .i64 q) (.lit (.int .i64 0)) = .lit (.int .i64 ((b + atF q (sowsF T) : Nat) : Int))
theorem MapOk.start (b : Nat) : MapOk (.map []) b [] := ⟨⟨[], rfl⟩, fun q => rfl, fun q h => by simp [sowsF, inF] at h⟩
theorem lit_ne {x q : Int} (h : ¬ x = q) : (Lit.int .i64 x) ≠ (Lit.int .i64 q) := fun e => h (by cases e; rfl)
theorem MapOk.old {D : DataW Unit} {b : Nat} {T : List Int} {q : Int} (h : MapOk D b T) (hq : inF q (sowsF T) = true) : MapOk D b (T ++ [q]) := by
  refine ⟨h.mp, fun x => ?_, fun x hx => ?_⟩
  · rw [sowsF_snoc, inF_sow, h.has]
    by_cases e : x = q
    · subst e; simp [hq]
    · simp [e]
  · rw [sowsF_snoc] at hx ⊢
    have hx2 : inF x (sowsF T) = true := by
      rw [inF_sow] at hx
      by_cases e : x = q
      · subst e; exact hq
      · simpa [e] using hx
    rw [atF_sow_old _ _ _ hx2]
    exact h.at_ x hx2
theorem MapOk.new {D : DataW Unit} {b : Nat} {T : List Int} {q : Int} (h : MapOk D b T) (hq : inF q (sowsF T) = false) : MapOk (D.put (.int .i64 q) (.lit (.int .i64 ((b + (sowsF T).length : Nat) : Int)))) b (T ++ [q]) := by
  refine ⟨h.mp.put _ _, fun x => ?_, fun x hx => ?_⟩
  · rw [sowsF_snoc, inF_sow]
    by_cases e : x = q
    · subst e
      rw [Maps.has_put_same h.mp (show WideAt.IsKeyLit (.int .i64 x) from trivial)]
      simp
    · rw [Maps.has_put_other (lit_ne e), h.has]
      simp [e]
  · rw [sowsF_snoc] at hx ⊢
    by_cases e : x = q
    · subst e
      rw [Maps.atKey_put_same h.mp (show WideAt.IsKeyLit (.int .i64 x) from trivial), atF_sow_new _ _ hq]
    · have hx2 : inF x (sowsF T) = true := by
        rw [inF_sow] at hx
        simpa [e] using hx
      rw [Maps.atKey_put_other (lit_ne e), atF_sow_old _ _ _ hx2]
      exact h.at_ x hx2

/-- the teller, in memory: the block of its fields and the row of its facts -/
structure TlSt (w : World) (base tb : Nat) (fa : Option Addr) (fc : Nat) (l : List Fc) : Prop where
  c9 : w.cell? ⟨tb, 9, none⟩ = some (.slice fa l.length fc)
  fz : ∀ o, w.frozen? ⟨tb, o, none⟩ = false
  ow : w.ownsRow base 95 3 (.slice fa l.length fc) l.length (flat fcRL.f l)
  tb0 : base ≤ tb
  ne : ∀ k, (Value.slice fa l.length fc).ownBlock = some k → ¬ k = tb
theorem TlSt.lt {w : World} {base tb fc : Nat} {fa : Option Addr} {l : List Fc} (h : TlSt w base tb fa fc l) : tb < w.heap.size := World.block_lt_of_cell? w _ h.c9
theorem TlSt.keep {w w' : World} {base tb fc : Nat} {fa : Option Addr} {l : List Fc} (h : TlSt w base tb fa fc l) (h1 : w'.heap[tb]? = w.heap[tb]?) (h2 : ∀ k, (Value.slice fa l.length fc).ownBlock = some k → w'.heap[k]? = w.heap[k]?) : TlSt w' base tb fa fc l := by
  refine ⟨cell_stab h.c9 h1, fun o => (World.frozen?_of_block (w := w) h1).trans (h.fz o), ?_, h.tb0, h.ne⟩
  obtain ⟨k1, k2 | ⟨g, cap, cur, hv, hb, hg, r⟩⟩ := h.ow
  · exact ⟨k1, .inl k2⟩
  · exact ⟨k1, .inr ⟨g, cap, cur, hv, hb, by rw [h2 g (by rw [hv]; rfl)]; exact hg, r⟩⟩
theorem TlSt.grown {w w' : World} {base tb fc : Nat} {fa : Option Addr} {l : List Fc} {row : Option Nat} (h : TlSt w base tb fa fc l) (hg : w.grownBy w' row) (h1 : row ≠ some tb) (h2 : ∀ k, (Value.slice fa l.length fc).ownBlock = some k → row ≠ some k) : TlSt w' base tb fa fc l :=
  h.keep (hg.block tb h.lt (fun e => h1 e.symm)) (fun k hk => hg.block k (h.ow.lt k hk).2 (fun e => h2 k hk e.symm))
theorem TlSt.below {w w' : World} {base tb fc : Nat} {fa : Option Addr} {l : List Fc} (h : TlSt w base tb fa fc l) (hb : Below w.heap.size w w') : TlSt w' base tb fa fc l :=
  h.grown (grown_below hb none) (by simp) (fun k hk => by simp)
/-- one fact more -/
theorem TlSt.push {w w1 : World} {base tb fc fc' : Nat} {fa fa' : Option Addr} {l : List Fc} {x : Fc} (h : TlSt w base tb fa fc l) (hg : w.grownBy w1 (Value.slice fa l.length fc).ownBlock)
    (ho : w1.ownsRow base 95 3 (.slice fa' (l.length + 1) fc') (l.length + 1) (flat fcRL.f l ++ x.cells.toList)) (hn : ∀ k, (Value.slice fa' (l.length + 1) fc').ownBlock = some k → (Value.slice fa l.length fc).ownBlock = some k ∨ w.heap.size ≤ k) :
    TlSt (w1.setCell ⟨tb, 9, none⟩ (.slice fa' (l.length + 1) fc')) base tb fa' fc' (l ++ [x]) := by
  have e : (l ++ [x]).length = l.length + 1 := by simp
  have hne : ∀ k, (Value.slice fa' (l.length + 1) fc').ownBlock = some k → ¬ k = tb := fun k hk => by
    rcases hn k hk with h1 | h1
    · exact h.ne k h1
    · have := h.lt; omega
  have hb : w1.heap[tb]? = w.heap[tb]? := hg.block tb h.lt (fun e => h.ne tb e.symm rfl)
  refine ⟨?_, fun o => ?_, ?_, h.tb0, ?_⟩
  · rw [e]
    exact World.cell?_setCell_same w1 ⟨tb, 9, none⟩ _ (cell_stab h.c9 hb)
  · rw [World.frozen?_setCell]
    exact (World.frozen?_of_block (w := w) hb).trans (h.fz o)
  · rw [e, flat_append, flat_one]
    exact ownsRow_setCell_other ho (fun e => hne tb e rfl) _
  · rw [e]; exact hne
/-- a fact counts one seed more -/
theorem TlSt.count {w : World} {base tb fc g j : Nat} {l : List Fc} {x : Fc} (h : TlSt w base tb (some ⟨g, 0, none⟩) fc l) (hx : l[j]? = some x) (v : Int) : TlSt (w.setCell ⟨g, j * 3 + 2, none⟩ (.int .i64 v)) base tb (some ⟨g, 0, none⟩) fc (l.set j ⟨x.kind, x.place, v⟩) := by
  have hlen : 0 < l.length := by have := (List.getElem?_eq_some_iff.1 hx).1; omega
  obtain ⟨g', e', _, _⟩ := own_lt_n h.ow hlen
  have hgt : ¬ g = tb := by
    cases e'
    exact h.ne g rfl
  have hs := (h.ow.stored (j * 3 + 2) (.int .i64 v)).1
  have hf : (flat fcRL.f l).set (j * 3 + 2) (.int .i64 v) = flat fcRL.f (l.set j ⟨x.kind, x.place, v⟩) := flat_set (n := 3) fcRL.hf hx (by decide) rfl
  rw [hf] at hs
  refine ⟨?_, fun o => ?_, ?_, h.tb0, ?_⟩
  · rw [List.length_set, cell_other (fun e => hgt e.symm)]
    exact h.c9
  · rw [World.frozen?_setCell]; exact h.fz o
  · rw [List.length_set]; exact hs
  · rw [List.length_set]; exact h.ne

/-- a round of a lap's telling -/
structure TrSt (K : Nat → Prop) (base : Nat) (w wr : World) (tb mb : Nat) (l : List Fc) (T : List Int) (fa : Option Addr) (fc : Nat) : Prop where
  tl : TlSt wr base tb fa fc (l ++ sowsF T)
  mp : ∃ D : DataW Unit, wr.ownsMap Try.prog 2 (plainElem Try.prog 3) mb T.length D ∧ MapOk D l.length T
  bl : BelK K base w wr
  ak : ∀ k, (Value.slice fa (l ++ sowsF T).length fc).ownBlock = some k → ¬ K k
  m1 : ¬ mb = tb
  m2 : base ≤ mb
  m3 : ¬ K mb
  m4 : ∀ k, (Value.slice fa (l ++ sowsF T).length fc).ownBlock = some k → ¬ k = mb
theorem TrSt.old {K : Nat → Prop} {base : Nat} {w wr : World} {tb mb g fc j : Nat} {l : List Fc} {T : List Int} {f : Fc} {q : Int} (h : TrSt K base w wr tb mb l T (some ⟨g, 0, none⟩) fc) (hj : j = l.length + atF q (sowsF T)) (hf : (l ++ sowsF T)[j]? = some f) (hin : inF q (sowsF T) = true) (hK : ¬ K tb) :
    TrSt K base w (wr.setCell ⟨g, j * 3 + 2, none⟩ (.int .i64 (f.count + 1))) tb mb l (T ++ [q]) (some ⟨g, 0, none⟩) fc := by
  have hlen : 0 < (l ++ sowsF T).length := by have := (List.getElem?_eq_some_iff.1 hf).1; omega
  obtain ⟨g', e', hg1, _⟩ := own_lt_n h.tl.ow hlen
  cases e'
  have hat := inF_at.1 hin
  have he : (l ++ sowsF T).set j ⟨f.kind, f.place, f.count + 1⟩ = l ++ sowsF (T ++ [q]) := by
    rw [sowsF_snoc, sowF_in hat, hj, List.set_append_right _ _ (by omega)]
    have hff : f = (sowsF T)[atF q (sowsF T)] := by
      rw [hj, List.getElem?_append_right (by omega), Nat.add_sub_cancel_left, List.getElem?_eq_getElem hat] at hf
      exact (Option.some.inj hf).symm
    rw [Nat.add_sub_cancel_left, hff]
  have hl : (l ++ sowsF (T ++ [q])).length = (l ++ sowsF T).length := by rw [← he, List.length_set]
  obtain ⟨D, hD, hM⟩ := h.mp
  have hgm : ¬ g = mb := h.m4 g rfl
  refine ⟨?_, ⟨D, (World.ownsMap.setCell hD (a := ⟨g, j * 3 + 2, none⟩) (fun e => hgm e.symm) _).mono (by simp), hM.old hin⟩, h.bl.setCell hg1 (h.ak g rfl) _, ?_, h.m1, h.m2, h.m3, ?_⟩
  · rw [← he]
    exact h.tl.count hf _
  · rw [hl]; exact h.ak
  · rw [hl]; exact h.m4
theorem TrSt.new {K : Nat → Prop} {base : Nat} {w wr w1 w2 : World} {tb mb fc fc' g : Nat} {fa : Option Addr} {l : List Fc} {T : List Int} {q : Int} {D : DataW Unit} (h : TrSt K base w wr tb mb l T fa fc) (hM : MapOk D l.length T) (hout : inF q (sowsF T) = false) (hK : ¬ K tb)
    (hm1 : w1.ownsMap Try.prog 2 (plainElem Try.prog 3) mb (T.length + 1) (D.put (.int .i64 q) (.lit (.int .i64 ((l.length + (sowsF T).length : Nat) : Int))))) (hg1 : wr.grownBy w1 (some mb))
    (ho2 : w2.ownsRow base 95 3 (.slice (some ⟨g, 0, none⟩) ((l ++ sowsF T).length + 1) fc') ((l ++ sowsF T).length + 1) (flat fcRL.f (l ++ sowsF T) ++ (Fc.cells ⟨2, q, 0⟩).toList))
    (hg2 : (w1.alloc (.cells (Fc.cells ⟨2, q, 0⟩) 95)).grownBy w2 (Value.slice fa (l ++ sowsF T).length fc).ownBlock)
    (hn2 : ∀ k, (Value.slice (some ⟨g, 0, none⟩) ((l ++ sowsF T).length + 1) fc').ownBlock = some k → (Value.slice fa (l ++ sowsF T).length fc).ownBlock = some k ∨ (w1.alloc (.cells (Fc.cells ⟨2, q, 0⟩) 95)).heap.size ≤ k) :
    TrSt K base w ((w2.setCell ⟨tb, 9, none⟩ (.slice (some ⟨g, 0, none⟩) ((l ++ sowsF T).length + 1) fc')).setCell ⟨g, (l ++ sowsF T).length * 3 + 2, none⟩ (.int .i64 1)) tb mb l (T ++ [q]) (some ⟨g, 0, none⟩) fc' := by
  have t1 : TlSt w1 base tb fa fc (l ++ sowsF T) := h.tl.grown hg1 (by intro e; cases e; exact h.m1 rfl) (fun k hk e => by cases e; exact h.m4 _ hk rfl)
  have t2 := t1.below (below_alloc1 w1 (.cells (Fc.cells ⟨2, q, 0⟩) 95))
  have t3 := t2.push (x := ⟨2, q, 0⟩) hg2 ho2 hn2
  have hx : ((l ++ sowsF T) ++ [(⟨2, q, 0⟩ : Fc)])[(l ++ sowsF T).length]? = some ⟨2, q, 0⟩ := by simp
  have t4 := t3.count hx 1
  have he : ((l ++ sowsF T) ++ [(⟨2, q, 0⟩ : Fc)]).set (l ++ sowsF T).length ⟨2, q, 1⟩ = l ++ sowsF (T ++ [q]) := by
    rw [sowsF_snoc, sowF_out hout, List.set_append_right _ _ (Nat.le_refl _), Nat.sub_self]
    simp
  rw [he] at t4
  have hl : (l ++ sowsF (T ++ [q])).length = (l ++ sowsF T).length + 1 := by rw [← he]; simp; omega
  have hmb : mb < w1.heap.size := hm1.lt
  have hmw : mb < wr.heap.size := h.mp.elim fun D hD => hD.1.lt
  have hgo := hn2 g rfl
  simp only [World.size_alloc] at hgo
  have hbs : base ≤ wr.heap.size := Nat.le_trans h.m2 (Nat.le_of_lt hmw)
  have hs1 := hg1.size
  have hgm : ¬ g = mb := by
    rcases hgo with h1 | h1
    · exact h.m4 g h1
    · omega
  have hKl : ∀ k, K k → k < wr.heap.size := fun k hk => Nat.lt_of_lt_of_le (h.bl.lt k hk) h.bl.bel.size
  have hgK : ¬ K g := by
    rcases hgo with h1 | h1
    · exact h.ak g h1
    · intro hk; have := hKl g hk; omega
  have hgb : base ≤ g := (ho2.lt g rfl).1
  have hbl1 := h.bl.grown hg1 hbs (fun k hk => by cases hk; exact h.m2) (fun k hk => by cases hk; exact h.m3)
  have hbl2 := hbl1.below (by omega) (below_alloc1 w1 (.cells (Fc.cells ⟨2, q, 0⟩) 95))
  have hbl3 := hbl2.grown hg2 (by simp; omega) (fun k hk => (h.tl.ow.lt k hk).1) h.ak
  have hm2 := (World.ownsMap.alloc hm1 (.cells (Fc.cells ⟨2, q, 0⟩) 95)).kept hg2 (fun e => h.m4 mb e.symm rfl)
  have hm3 := World.ownsMap.setCell hm2 (a := ⟨tb, 9, none⟩) h.m1 (.slice (some ⟨g, 0, none⟩) ((l ++ sowsF T).length + 1) fc')
  have hm4 := World.ownsMap.setCell hm3 (a := ⟨g, (l ++ sowsF T).length * 3 + 2, none⟩) (fun e => hgm e.symm) (.int .i64 1)
  refine ⟨t4, ⟨_, hm4.mono (by simp), hM.new hout⟩, (hbl3.setCell h.tl.tb0 hK _).setCell hgb hgK _, ?_, h.m1, h.m2, h.m3, ?_⟩
  · rw [hl]
    intro k hk
    cases hk
    exact hgK
  · rw [hl]
    intro k hk
    cases hk
    exact hgm

theorem zeroInt (w : World) : (zeroValue 3).run Try.prog w = .ok (.int .i64 0) w := by kernel_rfl
theorem keyPlace {q : Int} (h : -1 ≤ q ∧ q ≤ 1000) : keyOf Try.prog 2 (.int .i64 q) = some (.int .i64 q) := Maps.keyOf_int_mk Try.underlying2 (WalkArith.wf_i64 (by omega))
/-- what a lap's telling leaves -/
def TlRes (K : Nat → Prop) (base tb : Nat) (l : List Fc) (w : World) (e : Ending) (w' : World) : Prop := ∃ (fa' : Option Addr) (fc' : Nat), e = .returned (.tuple #[]) ∧ TlSt w' base tb fa' fc' l ∧ BelK K base w w' ∧ ∀ k, (Value.slice fa' l.length fc').ownBlock = some k → ¬ K k
set_option maxRecDepth 100000 in
set_option maxHeartbeats 16000000 in
theorem tlap_c (K : Nat → Prop) (base tb : Nat) (fr n : Int) (X : List Int) (pa : Option Addr) (pc : Nat) (l : List Fc) (fa : Option Addr) (fc : Nat) (w : World) (h : TlSt w base tb fa fc l) (hp : Ints w pa X)
    (hX : ∀ q ∈ X, -1 ≤ q ∧ q ≤ 1000) (hXl : X.length ≤ 1000) (hll : l.length ≤ 1000000) (hK : ¬ K tb) (hKl : ∀ k, K k → k < w.heap.size) (hKa : ∀ k, (Value.slice fa l.length fc).ownBlock = some k → ¬ K k) (hKp : ∀ b o, pa = some ⟨b, o, none⟩ → K b) :
    Calls Try.prog 123 #[.pointer (some ⟨tb, 0, none⟩), .int .i64 fr, .int .i64 n, .slice pa X.length pc] w (TlRes K base tb (l ++ lapF fr n X) w) := by
  obtain ⟨i0, hi, hz0, hz1, hz2⟩ := info_partsFc infoFc
  have HX := Lib.hid hX
  have hbs : base ≤ w.heap.size := Nat.le_trans h.tb0 (Nat.le_of_lt h.lt)
  have HBX0 : Hid (BoxP w.heap.size (Fc.cells ⟨1, fr, n⟩).toList (w.alloc (.cells (Fc.cells ⟨1, fr, n⟩) 95))) := ((Fr.start w).alloc (Fc.cells ⟨1, fr, n⟩) 95).at 0 rfl
  have HT0 := Lib.hid (h.below (below_alloc1 w (.cells (Fc.cells ⟨1, fr, n⟩) 95)))
  have c9 := h.c9
  have HTL := Lib.hid h
  have ztb := h.lt
  have HKA : Hid ((∀ k, K k → k < w.heap.size) ∧ (∀ k, (Value.slice fa l.length fc).ownBlock = some k → ¬ K k) ∧ ¬ K tb) := ⟨hKl, hKa, hK⟩
  have HKP := Lib.hid hKp
  have HP := Lib.hid hp
  have hmm := @run_makeMap Try.prog
  clear h hp hX hKl hKa hK hKp
  go_enter Try.func123, Try.ntmps123
  go_wp2_with (at_builtin; refine wpList_append_own2 _ rfl _ _ 36 rfl base 95 i0 (.agg #[.int .i64 0, .int .i64 0, .int .i64 0]) 3 24 Try.underlying36 hi hz0 hz1 hz2 rfl (by decide) (.slice fa l.length fc) l.length (flat fcRL.f l) rfl HT0.out.ow ⟨w.heap.size, 0, none⟩ 1 1 (Fc.cells ⟨1, fr, n⟩).toList rfl rfl (fun j u hu => by rw [addr_addT, Nat.zero_add]; exact HBX0.out j u hu) (by intro u hu; simp [Fc.cells] at hu; rcases hu with rfl | rfl | rfl <;> rfl) (by unfold maxLen; omega) (by omega) (by simp; omega) ?_)
  intro ad2 c2 w2 ho2 hg2 hn2
  have hp2 := HT0.out.push (x := ⟨1, fr, n⟩) hg2 ho2 (fun k hk => by have := hn2 k hk; simpa using this)
  obtain ⟨ad2g, rfl, _, _⟩ := own_lt_n ho2 (by omega)
  have hs2 := hg2.size
  simp only [World.size_alloc] at hs2
  have hnK : ¬ K ad2g := by
    rcases hn2 ad2g rfl with h1 | h1
    · exact HKA.out.2.1 _ h1
    · intro hk
      have := HKA.out.1 _ hk
      omega
  have HTR : Hid (TrSt K base w ((w2.setCell ⟨tb, 9, none⟩ (.slice (some ⟨ad2g, 0, none⟩) (l.length + 1) c2)).alloc (.map #[] 0)) tb w2.heap.size (l ++ [⟨1, fr, n⟩]) [] (some ⟨ad2g, 0, none⟩) c2) := by
    have e : (l ++ [(⟨1, fr, n⟩ : Fc)]) ++ sowsF [] = l ++ [⟨1, fr, n⟩] := by simp [sowsF]
    have hgl : ad2g < w2.heap.size := (ho2.lt ad2g rfl).2
    have hgb : base ≤ ad2g := (ho2.lt ad2g rfl).1
    refine ⟨?_, ⟨.map [], ?_, MapOk.start _⟩, ?_, ?_, ?_, ?_, ?_, ?_⟩
    · rw [e]
      exact hp2.below ((Below.refl _ _).alloc (Nat.le_refl _) _)
    · have := World.ownsMap_made (H := Unit) (w2.setCell ⟨tb, 9, none⟩ (.slice (some ⟨ad2g, 0, none⟩) (l.length + 1) c2)) Try.prog 2 (plainElem Try.prog 3)
      simpa using this
    · have b1 := (BelK.refl HKA.out.1).below hbs (below_alloc1 w (.cells (Fc.cells ⟨1, fr, n⟩) 95))
      have b2 := b1.grown hg2 (by simp; omega) (fun k hk => (HTL.out.ow.lt k hk).1) HKA.out.2.1
      exact (b2.setCell HTL.out.tb0 HKA.out.2.2 _).below (by simp; omega) ((Below.refl _ _).alloc (Nat.le_refl _) _)
    · rw [e]
      intro k hk
      cases hk
      exact hnK
    · omega
    · omega
    · intro hk
      have := HKA.out.1 _ hk
      omega
    · rw [e]
      intro k hk
      cases hk
      show ¬ ad2g = w2.heap.size
      omega
  have hb2 : w2.heap[tb]? = (w.alloc (.cells (Fc.cells ⟨1, fr, n⟩) 95)).heap[tb]? := hg2.block tb HT0.out.lt (fun e => HT0.out.ne tb e.symm rfl)
  have k9 := cell_stab HT0.out.c9 hb2
  have kf := (World.frozen?_of_block (w := _) hb2).trans (HT0.out.fz 9)
  clear hp2 ho2 hg2 hn2 HT0 HBX0 HTL c9 hnK hb2
  go_wp2_with fail
  go_loopw [28] (fun i wr => ∃ (k : Nat) (fa : Option Addr) (fc : Nat), i = .int .i64 (k : Int) ∧ k ≤ X.length ∧ Hid (TrSt K base w wr tb w2.heap.size (l ++ [⟨1, fr, n⟩]) (X.take k) fa fc)) (fun i _ => X.length - (intOf i).toNat)
  case atStart => exact ⟨0, _, _, rfl, Nat.zero_le _, HTR⟩
  case round =>
    clear HTR k9 kf
    obtain ⟨k, ga, gc, rfl, hk, HS⟩ := hrel
    obtain ⟨l1, hl1⟩ : ∃ l1, l1 = l ++ [(⟨1, fr, n⟩ : Fc)] := ⟨_, rfl⟩
    rw [← hl1] at HS
    have hll1 : l1.length = l.length + 1 := by rw [hl1]; simp
    have HL1 := Lib.hid hl1
    clear hl1
    by_cases hlt : k < X.length
    · have hkI : (k : Int) < (X.length : Int) := by omega
      obtain ⟨pb, po, rfl, hpb, hpc⟩ := Row.at HP.out (by simp; omega)
      have hKpb := HKP.out pb po rfl
      have hcell : wr.cell? ⟨pb, po + k, none⟩ = some (.int .i64 X[k]) := cell_stab (hpc k _ (by simp [hlt])) (HS.out.bl.keep pb hKpb)
      obtain ⟨q, hq⟩ : ∃ q, q = X[k] := ⟨_, rfl⟩
      rw [← hq] at hcell
      have hqb := HX.out q (by rw [hq]; exact List.getElem_mem hlt)
      have HTK : Hid (X.take (k + 1) = X.take k ++ [q]) := by unfold Hid; rw [List.take_succ_eq_append_getElem hlt, hq]
      obtain ⟨D, hD, hM⟩ := HS.out.mp
      have hbd := sowsF_bd (T := X.take k) (fun x hx => HX.out x (List.mem_of_mem_take hx))
      have hlT : (X.take k).length = k := by simp; omega
      obtain ⟨T, hT⟩ : ∃ T, T = X.take k := ⟨_, rfl⟩
      rw [← hT] at HS HTK hD hM hbd hlT
      obtain ⟨N, hN⟩ : ∃ N, N = (l1 ++ sowsF T).length := ⟨_, rfl⟩
      have hNb : N = l1.length + (sowsF T).length := by rw [hN]; simp
      have c9 := HS.out.tl.c9
      have cf := HS.out.tl.fz 9
      have ztr := HS.out.tl.lt
      have how := HS.out.tl.ow
      rw [← hN] at c9 how
      obtain ⟨g, rfl, hg1, hg2⟩ := own_lt_n how (by omega)
      have gf := fun o => how.frozenAt o
      have hky := keyPlace hqb
      have HBD := Lib.hid hbd
      have HMM := Lib.hid hM
      have HDD := Lib.hid hD
      have HNN := Lib.hid hN
      have HBR := Lib.hid (HS.out.bl.bel)
      have hNs : N ≤ 1002001 := by have := hbd.2; omega
      have hwk : IntKind.i64.wrap ((k : Int) + 1) = (k : Int) + 1 := IntWalk.i64_in _ (by omega)
      clear hq hqb hpc hT hpb hKpb hbd hM hD hN
      by_cases hin : inF q (sowsF T) = true
      · have hat := inF_at.1 hin
        obtain ⟨j, hj⟩ : ∃ j, j = l1.length + atF q (sowsF T) := ⟨_, rfl⟩
        obtain ⟨f, hf⟩ : ∃ f, (l1 ++ sowsF T)[j]? = some f := ⟨_, List.getElem?_eq_getElem (by rw [List.length_append]; omega)⟩
        have hff : f ∈ sowsF T := by
          rw [hj, List.getElem?_append_right (by omega)] at hf
          exact List.mem_of_getElem? hf
        have hfb := (HBD.out.1 f hff).2.2
        have hhas : Maps.has D (.int .i64 q) = true := (HMM.out.has q).trans hin
        have hatD := HMM.out.at_ q hin
        rw [← hj] at hatD
        have q2 : wr.cell? ⟨g, j * 3 + 2, none⟩ = some (.int .i64 f.count) := own_item (f := fcRL.f) (n := 3) fcRL.hf HS.out.tl.ow hf 2 _ (by decide) rfl
        have hwr : IntKind.i64.wrap (f.count + 1) = f.count + 1 := IntWalk.i64_in _ (by omega)
        have hjN : (j : Int) < (N : Int) := by omega
        have HNX : Hid (TrSt K base w (wr.setCell ⟨g, j * 3 + 2, none⟩ (.int .i64 (f.count + 1))) tb w2.heap.size l1 (T ++ [q]) (some ⟨g, 0, none⟩) gc) := HS.out.old hj hf hin HKA.out.2.2
        obtain ⟨v, hv⟩ : ∃ v, v = f.count := ⟨_, rfl⟩
        rw [← hv] at q2 hwr HNX
        have HATD := Lib.hid hatD
        have HHAS := Lib.hid hhas
        clear hat hf hff hfb hv hatD hhas hin hj hlT hNb
        go_wp2_with (at_lookup; refine wpList_lookup_own_ok_int _ rfl _ _ 205 rfl 2 3 .i64 (Maps.int_keyed Try.underlying2) Try.underlying205 Try.underlying3 (zeroInt _) w2.heap.size _ D rfl HDD.out _ (.int .i64 q) rfl hky ?_)
        intro c hat hwc
        have hcj : c = (j : Int) := by
          have := hat.symm.trans HATD.out
          cases this
          rfl
        subst hcj
        rw [HHAS.out]
        clear hat hwc
        go_wp2
        go_roundw
        case rel => exact ⟨k + 1, _, _, by go_num, by omega, by rw [HTK.out, ← HL1.out]; exact HNX⟩
        case measure => simp [intOf]; omega
      · have hout : inF q (sowsF T) = false := by simpa using hin
        have hhas : Maps.has D (.int .i64 q) = false := (HMM.out.has q).trans hout
        have HHAS := Lib.hid hhas
        have HOUT := Lib.hid hout
        have HNB := Lib.hid hNb
        have hTb : T.length ≤ 1000 := by omega
        clear hin hhas hout hNb hll1 hlT
        go_wp2_with (at_lookup; refine wpList_lookup_own_ok_int _ rfl _ _ 205 rfl 2 3 .i64 (Maps.int_keyed Try.underlying2) Try.underlying205 Try.underlying3 (zeroInt _) w2.heap.size _ D rfl HDD.out _ (.int .i64 q) rfl hky ?_)
        intro c hat hwc
        rw [HHAS.out]
        clear hat hwc
        go_wp2_with (at_mapUpdate; refine wpList_mapUpdate_own _ rfl _ _ _ 205 rfl 2 3 (Maps.int_keyed Try.underlying2) Try.underlying205 _ w2.heap.size _ D rfl HDD.out (by unfold maxLen; omega) _ _ (.int .i64 q) rfl rfl hky (.lit (.int .i64 (N : Int))) [] (plainElem_int Try.underlying3 (WalkArith.wf_i64 (by omega))) ?_)
        intro w3 hown3 hg3
        have t3 := HS.out.tl.grown hg3 (by intro e; cases e; exact HS.out.m1 rfl) (fun k hk e => by cases e; exact HS.out.m4 _ hk rfl)
        have hN := HNN.out
        have t4 := t3.below (below_alloc1 w3 (.cells (Fc.cells ⟨2, q, 0⟩) 95))
        have HBX3 : Hid (BoxP w3.heap.size (Fc.cells ⟨2, q, 0⟩).toList (w3.alloc (.cells (Fc.cells ⟨2, q, 0⟩) 95))) := ((Fr.start w3).alloc (Fc.cells ⟨2, q, 0⟩) 95).at 0 rfl
        have HO4 : Hid ((w3.alloc (.cells (Fc.cells ⟨2, q, 0⟩) 95)).ownsRow base 95 3 (.slice (some ⟨g, 0, none⟩) N gc) N (flat fcRL.f (l1 ++ sowsF T))) := by
          unfold Hid
          have := t4.ow
          rw [← hN] at this
          exact this
        have c9' := t3.c9
        rw [← hN] at c9'
        have cf' := t3.fz 9
        have ztr' := t3.lt
        have hbs3 : base ≤ w3.heap.size := Nat.le_trans t3.tb0 (Nat.le_of_lt t3.lt)
        have HT3 := Lib.hid t3
        have HT4 := Lib.hid t4
        have HW3 := Lib.hid (And.intro hown3 hg3)
        have hs3 := hg3.size
        clear c9 cf ztr how gf hg3 hown3 hcell t3 t4 hN
        go_wp2_with (at_builtin; refine wpList_append_own2 _ rfl _ _ 36 rfl base 95 i0 (.agg #[.int .i64 0, .int .i64 0, .int .i64 0]) 3 24 Try.underlying36 hi hz0 hz1 hz2 rfl (by decide) (.slice (some ⟨g, 0, none⟩) N gc) N (flat fcRL.f (l1 ++ sowsF T)) rfl HO4.out ⟨w3.heap.size, 0, none⟩ 1 1 (Fc.cells ⟨2, q, 0⟩).toList rfl rfl (fun j u hu => by rw [addr_addT, Nat.zero_add]; exact HBX3.out j u hu) (by intro u hu; simp [Fc.cells] at hu; rcases hu with rfl | rfl | rfl <;> rfl) (by unfold maxLen; omega) (by omega) (by simp; omega) ?_)
        intro ad5 c5 w5 ho5 hg5 hn5
        obtain ⟨g5, rfl, hg51, hg52⟩ := own_lt_n ho5 (by omega)
        have hb5 : w5.heap[tb]? = (w3.alloc (.cells (Fc.cells ⟨2, q, 0⟩) 95)).heap[tb]? := hg5.block tb HT4.out.lt (fun e => HT4.out.ne tb (by rw [← HNN.out]; exact e.symm) rfl)
        have c9 := cell_stab HT4.out.c9 hb5
        rw [← HNN.out] at c9
        have cf := (World.frozen?_of_block (w := _) hb5).trans (HT4.out.fz 9)
        have hne5 : ¬ g5 = tb := by
          have h := hn5 g5 rfl
          (try simp only [World.size_alloc] at h)
          rcases h with h | h
          · exact HT4.out.ne g5 (by rw [← HNN.out]; exact h)
          · omega
        have hne6 : ¬ tb = g5 := fun e => hne5 e.symm
        have gf := fun o => ho5.frozenAt o
        have q5 : w5.cell? ⟨g5, N * 3 + 2, none⟩ = some (.int .i64 0) := by
          rw [ho5.cellAt (N * 3 + 2) (by omega), List.getElem?_append_right (by rw [flat_length fcRL.hf, ← HNN.out]; exact Nat.le_add_right _ _), flat_length fcRL.hf, ← HNN.out, show fcRL.n = 3 from rfl, Nat.add_sub_cancel_left]
          rfl
        have HNX : Hid (TrSt K base w ((w5.setCell ⟨tb, 9, none⟩ (.slice (some ⟨g5, 0, none⟩) (N + 1) c5)).setCell ⟨g5, N * 3 + 2, none⟩ (.int .i64 1)) tb w2.heap.size l1 (T ++ [q]) (some ⟨g5, 0, none⟩) c5) := by
          have hN := HNN.out
          unfold Hid
          rw [hN] at ho5 hg5 hn5 ⊢
          exact HS.out.new HMM.out HOUT.out HKA.out.2.2 (by rw [← HNB.out]; exact HW3.out.1) HW3.out.2 ho5 hg5 (fun k hk => by have := hn5 k hk; simpa using this)
        have zg5 : g5 < w5.heap.size := hg52
        have ztb5 : tb < w5.heap.size := World.block_lt_of_cell? w5 _ c9
        have hNI : (N : Int) < (N : Int) + 1 := by omega
        have hNI2 : (N : Int) < ((N + 1 : Nat) : Int) := by omega
        clear ho5 hg5 hn5 hb5 HT3 HT4 HO4 HBX3 HW3 c9' cf' ztr' hg51 hg52
        go_wp2
        go_roundw
        case rel => exact ⟨k + 1, _, _, by go_num, by omega, by rw [HTK.out, ← HL1.out]; exact HNX⟩
        case measure => simp [intOf]; omega
    · have hkl : k = X.length := by omega
      have hkI : ¬ (k : Int) < (X.length : Int) := by omega
      have HSF := HS.out
      have HF : Hid (TlSt wr base tb ga gc (l ++ lapF fr n X) ∧ BelK K base w wr ∧ ∀ k, (Value.slice ga (l ++ lapF fr n X).length gc).ownBlock = some k → ¬ K k) := by
        have e : l ++ lapF fr n X = l1 ++ sowsF (X.take k) := by rw [hkl, List.take_length, HL1.out]; simp [lapF]
        unfold Hid
        rw [e]
        exact ⟨HSF.tl, HSF.bl, HSF.ak⟩
      clear HSF hkl hlt hk HS hll1 HL1
      go_wp2
      go_end0
      exact ⟨ga, gc, rfl, HF.out⟩

end Go.Proofs.Ytbjgigdkbjabaaa
