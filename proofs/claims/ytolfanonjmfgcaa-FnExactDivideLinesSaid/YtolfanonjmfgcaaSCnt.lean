/- SCnt: lines of moves, counted by their lengths: the reference's functions. Each contract holds for every argument, under the premises that it states. -/
import Derived.Test.YtolfanonjmfgcaaCntP
import Derived.Test.YtolfanonjmfgcaaHeld
namespace Go.Proofs.Ytolfanonjmfgcaa
set_option linter.unusedSimpArgs false
set_option linter.unusedVariables false
set_option linter.unnecessarySimpa false
open Go.RowKit Go.ChangeShapes Go.WideShapes Go.ChangeAt Go.Joins

/-- a row outside of two blocks -/
def RowO (lo : Nat) (w : World) (a : Option Addr) (xs : List Int) : Prop := Ints w a xs ∧ ∀ b o t, a = some ⟨b, o, t⟩ → b < lo ∨ lo + 2 ≤ b
theorem RowO.below {lo C : Nat} {w w' : World} {a : Option Addr} {xs : List Int} (h : RowO lo w a xs) (hb : Below C w w') (hC : w.heap.size ≤ C) : RowO lo w' a xs := ⟨h.1.below hb hC, h.2⟩
theorem Chg.cell2 {lo b o : Nat} {w w' : World} (h : Chg lo (lo + 2) w w') {v : Value} (hv : w.cell? ⟨b, o, none⟩ = some v) (hn : b < lo ∨ lo + 2 ≤ b) : w'.cell? ⟨b, o, none⟩ = some v := h.cell hv hn
theorem Chg.rowO {lo : Nat} {w w' : World} {a : Option Addr} {xs : List Int} (h : Chg lo (lo + 2) w w') (hx : RowO lo w a xs) : RowO lo w' a xs := by
  refine ⟨fun j u hu => ?_, hx.2⟩
  obtain ⟨b, o, ha, hc⟩ := hx.1 j u hu
  exact ⟨b, o, ha, h.cell hc (hx.2 _ _ _ ha)⟩
theorem Chg.patAt2 {lo : Nat} {w w' : World} {b o pc sc : Nat} {p : P} {pa sa : Option Addr} (h : Chg lo (lo + 2) w w') (hp : P.At w b o p pa pc sa sc) (hb : b < lo ∨ lo + 2 ≤ b) : P.At w' b o p pa pc sa sc := ⟨h.cell hp.c0 hb, h.cell hp.c1 hb, h.cell hp.c2 hb⟩
theorem Chg.ratAt2 {lo : Nat} {w w' : World} {b o : Nat} {r : R} (h : Chg lo (lo + 2) w w') (hp : R.At w b o r) (hb : b < lo ∨ lo + 2 ≤ b) : R.At w' b o r :=
  ⟨h.cell hp.c0 hb, h.cell hp.c1 hb, h.cell hp.c2 hb, h.cell hp.c3 hb, h.cell hp.c4 hb, h.cell hp.c5 hb, h.cell hp.c6 hb, h.cell hp.c7 hb, h.cell hp.c8 hb⟩
theorem Chg.boxP2 {lo g : Nat} {w w' : World} {cs : List Value} (h : Chg lo (lo + 2) w w') (hp : BoxP g cs w) (hb : g < lo ∨ lo + 2 ≤ g) : BoxP g cs w' := fun j v hv => h.cell (hp j v hv) hb
theorem Chg.own2 {lo base : Nat} {w w' : World} {e : TypeId} {size n : Nat} {v : Value} {vs : List Value} (h : Chg lo (lo + 2) w w') (ho : w.ownsRow base e size v n vs) (hb : lo + 2 ≤ base) : w'.ownsRow base e size v n vs :=
  own_stab (hi := w.heap.size) (Nat.le_refl _) ho (fun k hk => (ho.lt k hk).2) (fun k k1 k2 => h.block k k2 (by omega))
theorem Chg.mksOwn2 {lo base c : Nat} {w w' : World} {ad : Option Addr} {l : List (Mk × MA)} (h : Chg lo (lo + 2) w w') (ho : MksOwn w base ad c l) (hb : lo + 2 ≤ base) : MksOwn w' base ad c l :=
  ⟨h.own2 ho.row hb, fun x hx => ⟨⟨h.own2 (ho.items x hx).1.pits hb, h.own2 (ho.items x hx).1.stores hb, (ho.items x hx).1.apart⟩, (ho.items x hx).2⟩⟩
theorem own_rowO {lo base : Nat} {w : World} {c : Nat} {a : Option Addr} {xs : List Int} (h : OwnI w base a c xs) (hb : lo + 2 ≤ base) : RowO lo w a xs := by
  refine ⟨own_row h, fun b o t ha => ?_⟩
  subst ha
  have := (h.lt b rfl).1
  omega
/-- the counters of a walk -/
structure WkI (w : World) (lo C cb eb rb ro L : Nat) (cs es : List Int) : Prop where
  k0 : w.cell? ⟨C, 0, none⟩ = some (.pointer (some ⟨rb, ro, none⟩))
  k1 : w.cell? ⟨C, 1, none⟩ = some (.slice (some ⟨cb, 0, none⟩) L L)
  k2 : w.cell? ⟨C, 2, none⟩ = some (.slice (some ⟨eb, 0, none⟩) L L)
  rc : w.ownsRow lo 2 1 (.slice (some ⟨cb, 0, none⟩) L L) L (cs.map (Value.int .i64))
  re : w.ownsRow lo 2 1 (.slice (some ⟨eb, 0, none⟩) L L) L (es.map (Value.int .i64))
  cl : cs.length = L
  el : es.length = L
  ne : ¬ cb = eb
  hc : cb < lo + 2
  he : eb < lo + 2
  hC : C = lo + 2
theorem WkI.below {w w' : World} {lo C cb eb rb ro L : Nat} {cs es : List Int} (h : WkI w lo C cb eb rb ro L cs es) (hb : Below w.heap.size w w') : WkI w' lo C cb eb rb ro L cs es := by
  have hB : C < w.heap.size := World.block_lt_of_cell? w _ h.k0
  exact ⟨(hb.cell (show (Addr.mk C 0 none).block < _ from hB)).trans h.k0, (hb.cell (show (Addr.mk C 1 none).block < _ from hB)).trans h.k1, (hb.cell (show (Addr.mk C 2 none).block < _ from hB)).trans h.k2, own_below h.rc hb (Nat.le_refl _), own_below h.re hb (Nat.le_refl _), h.cl, h.el, h.ne, h.hc, h.he, h.hC⟩
theorem WkI.lo {w : World} {lo C cb eb rb ro L : Nat} {cs es : List Int} (h : WkI w lo C cb eb rb ro L cs es) : lo ≤ cb ∧ lo ≤ eb := ⟨(h.rc.lt cb rfl).1, (h.re.lt eb rfl).1⟩
theorem WkI.setC {w : World} {lo C cb eb rb ro L : Nat} {cs es : List Int} (h : WkI w lo C cb eb rb ro L cs es) (i : Nat) (n : Int) : WkI (w.setCell ⟨cb, i, none⟩ (.int .i64 n)) lo C cb eb rb ro L (cs.set i n) es := by
  have hl := h.lo
  have h1 := h.hc
  have h2 := h.hC
  have hs := (h.rc.stored i (.int .i64 n)).1
  rw [← List.map_set] at hs
  refine ⟨?_, ?_, ?_, hs, ownsRow_setCell_other h.re (by simp [Value.ownBlock]; exact fun e => h.ne e.symm) _, by simp [h.cl], h.el, h.ne, h.hc, h.he, h.hC⟩
  · rw [cell_other (by omega)]; exact h.k0
  · rw [cell_other (by omega)]; exact h.k1
  · rw [cell_other (by omega)]; exact h.k2
theorem WkI.setE {w : World} {lo C cb eb rb ro L : Nat} {cs es : List Int} (h : WkI w lo C cb eb rb ro L cs es) (i : Nat) (n : Int) : WkI (w.setCell ⟨eb, i, none⟩ (.int .i64 n)) lo C cb eb rb ro L cs (es.set i n) := by
  have hl := h.lo
  have h1 := h.he
  have h2 := h.hC
  have hs := (h.re.stored i (.int .i64 n)).1
  rw [← List.map_set] at hs
  refine ⟨?_, ?_, ?_, ownsRow_setCell_other h.rc (by simp [Value.ownBlock]; exact fun e => h.ne e) _, hs, h.cl, by simp [h.el], h.ne, h.hc, h.he, h.hC⟩
  · rw [cell_other (by omega)]; exact h.k0
  · rw [cell_other (by omega)]; exact h.k1
  · rw [cell_other (by omega)]; exact h.k2
def WkPost (w : World) (lo C cb eb rb ro L : Nat) (cs es : List Int) (e : Ending) (w' : World) : Prop := e = .returned (.tuple #[]) ∧ WkI w' lo C cb eb rb ro L cs es ∧ Chg lo (lo + 2) w w'
theorem chg_set2 (w : World) (lo b o : Nat) (v : Value) (h1 : lo ≤ b) (h2 : b < lo + 2) : Chg lo (lo + 2) w (w.setCell ⟨b, o, none⟩ v) := (chg_set w b o v).mono h1 (by omega)
theorem row_getI {w : World} {lo g L : Nat} {cs : List Int} (h : w.ownsRow lo 2 1 (.slice (some ⟨g, 0, none⟩) L L) L (cs.map (Value.int .i64))) (hl : cs.length = L) (i : Nat) (hi : i < cs.length) : w.cell? ⟨g, i, none⟩ = some (.int .i64 cs[i]) := by
  rw [h.cellAt i (by omega)]
  simp [hi]

def WkC (r : R) (D m : Nat) : Prop := ∀ (p : P) (_ : p.ok r = true) (a : Nat) (_ : a + m = D) (lo C cb eb rb ro pb po : Nat) (pa sa : Option Addr) (pc sc : Nat) (w : World) (cs es : List Int) (T : Int) (_ : WkI w lo C cb eb rb ro (D + 1) cs es) (_ : R.At w rb ro r) (_ : rb < lo) (_ : P.At w pb po p pa pc sa sc) (_ : pb < lo ∨ lo + 2 ≤ pb)
    (_ : RowO lo w pa p.pits) (_ : RowO lo w sa p.stores) (_ : ∀ v ∈ cs, 0 ≤ v ∧ v ≤ T) (_ : ∀ v ∈ es, 0 ≤ v ∧ v ≤ T) (_ : 0 ≤ T) (_ : T + Bz m ≤ 1000000000000),
    Calls Try.prog 34 #[.pointer (some ⟨C, 0, none⟩), .pointer (some ⟨pb, po, none⟩), .int .i64 (a : Int), .int .i64 (D : Int)] w (WkPost w lo C cb eb rb ro (D + 1) (addL a (fun j => lnT r oneF j p) cs) (addL a (fun j => lnT r (finF r) j p) es))
/-- a round over the results -/
structure WsSt (w wr : World) (lo C cb eb rb ro L : Nat) (r : R) (a : Nat) (B : Int) (l lz : List (Mk × MA)) (ad : Option Addr) (c g k : Nat) (cs es tc te : List Int) (T : Int) : Prop where
  kl : k ≤ lz.length
  gc : adGo r oneF (a + 1) ((lz.drop k).map Prod.fst) cs = tc
  ge : adGo r (finF r) (a + 1) ((lz.drop k).map Prod.fst) es = te
  bc : ∀ v ∈ cs, 0 ≤ v ∧ v ≤ T
  be : ∀ v ∈ es, 0 ≤ v ∧ v ≤ T
  t0 : 0 ≤ T
  t1 : T + B * ((lz.length - k : Nat) : Int) ≤ 1000000000000
  own : MksOwn wr w.heap.size ad c l
  box : BoxP g (mcells l) wr
  inv : WkI wr lo C cb eb rb ro L cs es
  chg : Chg lo (lo + 2) w wr
theorem adGo_at (r : R) (f : P → Int) (a : Nat) (l : List (Mk × MA)) (k : Nat) (cs : List Int) (x : Mk × MA) (hx : l[k]? = some x) : adGo r f a ((l.drop k).map Prod.fst) cs = adGo r f a ((l.drop (k + 1)).map Prod.fst) (addL a (fun j => lnT r f j (nxt x.1)) cs) := by
  obtain ⟨hk, he⟩ := List.getElem?_eq_some_iff.1 hx
  rw [List.drop_eq_getElem_cons hk, he]
  rfl
theorem P8_Bz : ∀ d, P8 d ≤ Bz d
  | 0 => by simp [P8, Bz]
  | d + 1 => by have := P8_Bz d; simp only [P8, Bz]; omega
theorem P8_mono : ∀ m j, j ≤ m → P8 j ≤ P8 m
  | 0, j, h => by obtain rfl : j = 0 := by omega
                  exact Int.le_refl _
  | m + 1, j, h => by
    by_cases e : j = m + 1
    · subst e; exact Int.le_refl _
    · have h1 := P8_mono m j (by omega)
      have h2 := P8_pos m
      simp only [P8]
      omega
theorem lnT_Bz {r : R} {f : P → Int} (hf : ∀ q, 0 ≤ f q ∧ f q ≤ 1) {p : P} (h : p.ok r = true) {j m : Nat} (hj : j ≤ m) : 0 ≤ lnT r f j p ∧ lnT r f j p ≤ Bz m := by
  have h1 := lnT_bd r f hf j p h
  have h2 := P8_mono m j hj
  have h3 := P8_Bz m
  omega
theorem set_bd {cs : List Int} {T : Int} (h : ∀ v ∈ cs, 0 ≤ v ∧ v ≤ T) (i : Nat) (n : Int) (h0 : 0 ≤ n) (h1 : n ≤ T + 1) (hT : 0 ≤ T) : ∀ v ∈ cs.set i n, 0 ≤ v ∧ v ≤ T + 1 := by
  intro v hv
  rcases List.mem_or_eq_of_mem_set hv with h2 | h2
  · have := h v h2; omega
  · omega
set_option maxRecDepth 100000 in
set_option maxHeartbeats 16000000 in
theorem walk_step (r : R) (D m : Nat) (hD8 : D ≤ 8) (IH : ∀ m', m = m' + 1 → WkC r D m') : WkC r D m := by
  intro p hok a ham lo C cb eb rb ro pb po pa sa pc sc w cs es T hI hr hrb hp hpb hn1 hn2 hbc hbe hT0 hT1
  obtain ⟨m1, m2⟩ := P.ok_lens hok
  have hbz := Bz_pos m
  have hal : a < cs.length := by rw [hI.cl]; omega
  have hale : a < es.length := by rw [hI.el]; omega
  have haD : a < D + 1 := by omega
  obtain ⟨hlo1, hlo2⟩ := hI.lo
  have hhc := hI.hc
  have hhe := hI.he
  have hne := hI.ne
  have hCl : C < w.heap.size := World.block_lt_of_cell? w _ hI.k0
  have hCe1 : C ≤ lo + 2 := by rw [hI.hC]; exact Nat.le_refl _
  have hCe2 : lo + 2 ≤ C := by rw [hI.hC]; exact Nat.le_refl _
  have hlw : lo + 2 < w.heap.size := by omega
  obtain ⟨v0, hv0⟩ : ∃ v0, v0 = cs[a] := ⟨_, rfl⟩
  obtain ⟨u0, hu0⟩ : ∃ u0, u0 = es[a] := ⟨_, rfl⟩
  have hvb : 0 ≤ v0 ∧ v0 ≤ T := by rw [hv0]; exact hbc _ (List.getElem_mem hal)
  have hub : 0 ≤ u0 ∧ u0 ≤ T := by rw [hu0]; exact hbe _ (List.getElem_mem hale)
  have HGE : Hid (∀ W : World, W.ownsRow lo 2 1 (.slice (some ⟨eb, 0, none⟩) (D + 1) (D + 1)) (D + 1) (es.map (Value.int .i64)) → W.cell? ⟨eb, a, none⟩ = some (.int .i64 u0)) := fun W h => by rw [hu0]; exact row_getI h hI.el a hale
  obtain ⟨hv1, hv2⟩ := hvb
  obtain ⟨hu1, hu2⟩ := hub
  have hwv : IntKind.i64.wrap (v0 + 1) = v0 + 1 := IntWalk.i64_in _ (by omega)
  have hwu : IntKind.i64.wrap (u0 + 1) = u0 + 1 := IntWalk.i64_in _ (by omega)
  have hcv : w.cell? ⟨cb, a, none⟩ = some (.int .i64 v0) := by rw [hv0]; exact row_getI hI.rc hI.cl a hal
  have hfz := hI.rc.frozenAt a
  obtain ⟨k0, k1, k2⟩ := (⟨hI.k0, hI.k1, hI.k2⟩ : _ ∧ _ ∧ _)
  have hI1 := hI.setC a (v0 + 1)
  have hC1 : Chg lo (lo + 2) w (w.setCell ⟨cb, a, none⟩ (.int .i64 (v0 + 1))) := chg_set2 w lo cb a _ hlo1 hhc
  have HI1 : Hid (WkI (w.setCell ⟨cb, a, none⟩ (.int .i64 (v0 + 1))) lo C cb eb rb ro (D + 1) (cs.set a (v0 + 1)) es ∧ Chg lo (lo + 2) w (w.setCell ⟨cb, a, none⟩ (.int .i64 (v0 + 1)))) := ⟨hI1, hC1⟩
  have HRW : Hid (R.At w rb ro r) := hr
  have HA := Lib.hid (l07All_c rb ro pb po r p hok pa sa pc sc _ (hC1.ratAt2 hr (.inl hrb)) (hC1.patAt2 hp hpb) ⟨(hC1.rowO hn1).1, (hC1.rowO hn2).1⟩ (by omega) (by omega))
  have HLN := Lib.hid (allP_len8 hok)
  have HV := Lib.hid (fun x (hx : x ∈ allP r p) => allP_valid hx)
  have HST := Lib.hid (addL_step r oneF p a cs hal)
  have HSTE := Lib.hid (addL_step r (finF r) p a es hale)
  have HSZ := Lib.hid (fun h => addL_set r p oneF a cs hal h)
  have HSZE := Lib.hid (fun h => addL_set r p (finF r) a es hale h)
  rw [← hv0] at HST HSZ
  rw [← hu0] at HSTE HSZE
  have hse : es.set a (u0 + 0) = es := by rw [hu0, Int.add_zero]; exact List.set_getElem_self hale
  have HSE := Lib.hid hse
  have HBC : Hid (∀ v ∈ cs.set a (v0 + 1), 0 ≤ v ∧ v ≤ T + 1) := set_bd hbc a _ (by omega) (by omega) hT0
  have HBE : Hid (∀ v ∈ es, 0 ≤ v ∧ v ≤ T + 1) := fun v hv => by have := hbe v hv; omega
  have HLC := Lib.hid hI.cl
  have HLE := Lib.hid hI.el
  obtain ⟨tc, htc⟩ : ∃ tc, tc = addL a (fun j => lnT r oneF j p) cs := ⟨_, rfl⟩
  obtain ⟨te, hte⟩ : ∃ te, te = addL a (fun j => lnT r (finF r) j p) es := ⟨_, rfl⟩
  rw [← htc] at HST HSZ ⊢
  rw [← hte] at HSTE HSZE ⊢
  clear htc hte hse hbc hbe hC1 hI1 hr hp hn1 hn2 hok hv0 hu0 hI hal hale hpb
  go_enter Try.func34, Try.ntmps34
  go_wp2_with fail
  refine HA.out.mono ?_
  rintro e w2 ⟨l, ad, c, hl, rfl, ho, hb2⟩
  have HL := Lib.hid hl
  have hll : l.length ≤ 8 := by
    have h1 := HLN.out
    rw [← HL.out, List.length_map] at h1
    exact h1
  have HI2 : Hid (WkI w2 lo C cb eb rb ro (D + 1) (cs.set a (v0 + 1)) es ∧ Chg lo (lo + 2) w w2) := ⟨HI1.out.1.below hb2, HI1.out.2.grow hb2⟩
  clear HI1 HA hcv hfz k0 k1 k2
  by_cases hln : l.length = 0
  · have HNI : Hid (allP r p = []) := by unfold Hid; rw [← HL.out, List.eq_nil_of_length_eq_zero hln]; rfl
    have hlz : ((l.length : Int) == 0) = true := by simpa using hln
    have hI3 := HI2.out.1.setE a (u0 + 1)
    have HF : Hid (WkI (w2.setCell ⟨eb, a, none⟩ (.int .i64 (u0 + 1))) lo C cb eb rb ro (D + 1) (cs.set a (v0 + 1)) (es.set a (u0 + 1)) ∧ Chg lo (lo + 2) w (w2.setCell ⟨eb, a, none⟩ (.int .i64 (u0 + 1)))) := ⟨hI3, HI2.out.2.trans (chg_set2 w2 lo eb a _ hlo2 hhe)⟩
    have HTC : Hid (tc = cs.set a (v0 + 1)) := by
      have h1 := HST.out
      rw [HNI.out] at h1
      unfold Hid
      rw [← h1]
      exact (addL_zero _ _)
    have HTE : Hid (te = es.set a (u0 + 1)) := by
      have h1 := HSTE.out
      rw [show finF r p = 1 by unfold finF; rw [if_pos HNI.out], HNI.out] at h1
      unfold Hid
      rw [← h1]
      exact (addL_zero _ _)
    obtain ⟨k0, k1, k2⟩ := (⟨HI2.out.1.k0, HI2.out.1.k1, HI2.out.1.k2⟩ : _ ∧ _ ∧ _)
    have hcu : w2.cell? ⟨eb, a, none⟩ = some (.int .i64 u0) := HGE.out _ HI2.out.1.re
    have hfu := HI2.out.1.re.frozenAt a
    clear hb2 hl ho hln hI3
    go_wp2
    go_end0
    rw [HTC.out, HTE.out]
    exact ⟨rfl, HF.out⟩
  have hlz : ((l.length : Int) == 0) = false := by simpa using hln
  have HNE : Hid (finF r p = 0) := by
    unfold Hid finF
    rw [if_neg (fun e => by rw [← HL.out] at e; exact hln (by have := congrArg List.length e; simpa using this))]
  obtain ⟨g, hbox, hg0, hgd⟩ := mks_box ho hb2.size
  have HGD := Lib.hid hgd
  simp only [World.size_setCell] at hg0
  have hgo : g < lo ∨ lo + 2 ≤ g := .inr (by omega)
  have hwa : IntKind.i64.wrap ((a : Int) + 1) = (a : Int) + 1 := IntWalk.i64_in _ (by omega)
  have hho := ho.le (base' := w.heap.size) (by first | (simp; done) | (simp; omega))
  have hst0 : Hid (∃ lz B, ((m = 0 ∧ lz = []) ∨ ∃ m', m = m' + 1 ∧ lz = l ∧ B = Bz m') ∧ WsSt w w2 lo C cb eb rb ro (D + 1) r a B l lz ad c g 0 (cs.set a (v0 + 1)) es tc te (T + 1)) := by
    by_cases hm : m = 0
    · refine ⟨[], 0, .inl ⟨hm, rfl⟩, ⟨Nat.zero_le _, ?_, ?_, HBC.out, HBE.out, by omega, by simp; subst hm; simp only [Bz] at hT1; omega, hho, hbox, HI2.out.1, HI2.out.2⟩⟩
      · exact (HSZ.out (by have := HLC.out; omega)).symm
      · have h1 := HSZE.out (by have := HLE.out; omega)
        rw [HNE.out, HSE.out] at h1
        exact h1.symm
    · obtain ⟨m', rfl⟩ : ∃ m', m = m' + 1 := ⟨m - 1, by omega⟩
      have hbz' := Bz_pos m'
      refine ⟨l, Bz m', .inr ⟨m', rfl, rfl, rfl⟩, ⟨Nat.zero_le _, ?_, ?_, HBC.out, HBE.out, by omega, ?_, hho, hbox, HI2.out.1, HI2.out.2⟩⟩
      · rw [List.drop_zero, HL.out, adGo_eq]; exact HST.out
      · rw [List.drop_zero, HL.out, adGo_eq]
        have h1 := HSTE.out
        rw [HNE.out, HSE.out] at h1
        exact h1
      · have h1 : Bz m' * (l.length : Int) ≤ Bz m' * 8 := Int.mul_le_mul_of_nonneg_left (by omega) (by omega)
        simp only [Bz] at hT1
        rw [Nat.sub_zero]
        omega
  obtain ⟨lz, B, hlzB, hst1⟩ := hst0.out
  have HLZ := Lib.hid hlzB
  have HST1 := Lib.hid hst1
  have HVX := Lib.hid (fun x (hx : x ∈ l) => HV.out x.1 (by rw [← HL.out]; exact List.mem_map_of_mem hx))
  have HIH := Lib.hid IH
  clear hst0 hlzB hst1 hb2 hl ho hho hbox hg0 hgd HV HST HSTE HSZ HSZE HSE HBC HBE HI2 HNE IH hln hT1 HGE
  go_wp2_with fail
  go_loopw [9] (fun i wr => ∃ (k : Nat) (cs es : List Int) (T : Int), i = .int .i64 k ∧ WsSt w wr lo C cb eb rb ro (D + 1) r a B l lz ad c g k cs es tc te T) (fun i _ => l.length - (intOf i).toNat)
  case atStart => exact ⟨0, _, _, _, rfl, HST1.out⟩
  case round =>
    clear HST1
    obtain ⟨k, cs, es, T, rfl, hst⟩ := hrel
    have HST := Lib.hid hst
    have hkl := hst.kl
    clear hst
    by_cases hk : k < lz.length
    case neg =>
      have HT : Hid (tc = cs ∧ te = es) := by
        have h1 := HST.out.gc
        have h2 := HST.out.ge
        rw [List.drop_eq_nil_of_le (by omega)] at h1 h2
        exact ⟨h1.symm, h2.symm⟩
      have hend : ¬ (k : Int) < (l.length : Int) ∨ ((k : Int) < (l.length : Int) ∧ ¬ (a : Int) < (D : Int)) := by
        rcases HLZ.out with ⟨h1, h2⟩ | ⟨m', h1, h2, _⟩
        · rw [h2] at hkl
          simp at hkl
          by_cases h3 : (k : Int) < (l.length : Int)
          · exact .inr ⟨h3, by omega⟩
          · exact .inl h3
        · rw [h2] at hk
          exact .inl (by omega)
      rcases hend with hend | ⟨hend1, hend2⟩
      · go_wp2
        go_end0
        rw [HT.out.1, HT.out.2]
        exact ⟨rfl, HST.out.inv, HST.out.chg⟩
      · go_wp2
        go_end0
        rw [HT.out.1, HT.out.2]
        exact ⟨rfl, HST.out.inv, HST.out.chg⟩
    obtain ⟨m', hm', hlzl, hB⟩ : ∃ m', m = m' + 1 ∧ lz = l ∧ B = Bz m' := by
      rcases HLZ.out with ⟨h1, h2⟩ | h
      · rw [h2] at hk; simp at hk
      · exact h
    have hkl2 : k < l.length := by rw [← hlzl]; exact hk
    obtain ⟨x, hx⟩ : ∃ x, l[k]? = some x := ⟨l[k], by simp [hkl2]⟩
    obtain ⟨q0, q1, q2, q3, q4, q5⟩ := box_cells HST.out.box hx
    obtain rfl := HGD.out (by omega)
    have hki : (k : Int) < (l.length : Int) := by omega
    have haDi : (a : Int) < (D : Int) := by omega
    have hgl : g < wr.heap.size := World.block_lt_of_cell? wr _ q0
    have hxm : x ∈ l := List.mem_of_getElem? hx
    have hVN := HVX.out x hxm
    have hxz : lz[k]? = some x := by rw [hlzl]; exact hx
    have hmul : B * ((lz.length - k : Nat) : Int) = B * ((lz.length - (k + 1) : Nat) : Int) + B := by
      rw [show (lz.length - k : Nat) = (lz.length - (k + 1)) + 1 by omega, Int.natCast_add, Int.mul_add]; simp
    have hbz' := Bz_pos m'
    have hnn : 0 ≤ B * ((lz.length - (k + 1) : Nat) : Int) := Int.mul_nonneg (by omega) (by omega)
    have ht1 := HST.out.t1
    have HC := Lib.hid (HIH.out m' hm' (nxt x.1) hVN (a + 1) (by omega) lo C cb eb rb ro g (k * 6 + 3) x.2.pa x.2.sa x.2.pc x.2.sc wr cs es T HST.out.inv (HST.out.chg.ratAt2 HRW.out (.inl hrb)) hrb ⟨q3, q4, q5⟩ hgo (own_rowO (HST.out.own.items x hxm).1.pits (by omega)) (own_rowO (HST.out.own.items x hxm).1.stores (by omega)) HST.out.bc HST.out.be HST.out.t0 (by omega))
    have HG1 : Hid (adGo r oneF (a + 1) ((lz.drop (k + 1)).map Prod.fst) (addL (a + 1) (fun j => lnT r oneF j (nxt x.1)) cs) = tc) := by
      rw [← adGo_at r oneF (a + 1) lz k cs x hxz]; exact HST.out.gc
    have HG2 : Hid (adGo r (finF r) (a + 1) ((lz.drop (k + 1)).map Prod.fst) (addL (a + 1) (fun j => lnT r (finF r) j (nxt x.1)) es) = te) := by
      rw [← adGo_at r (finF r) (a + 1) lz k es x hxz]; exact HST.out.ge
    have HB1 : Hid (∀ v ∈ addL (a + 1) (fun j => lnT r oneF j (nxt x.1)) cs, 0 ≤ v ∧ v ≤ T + B) := addL_bd (by omega) HST.out.bc (fun j hj => by rw [hB]; exact lnT_Bz oneF_bd hVN (by have := HST.out.inv.cl; omega))
    have HB2 : Hid (∀ v ∈ addL (a + 1) (fun j => lnT r (finF r) j (nxt x.1)) es, 0 ≤ v ∧ v ≤ T + B) := addL_bd (by omega) HST.out.be (fun j hj => by rw [hB]; exact lnT_Bz (finF_bd r) hVN (by have := HST.out.inv.el; omega))
    have HT0 : Hid (0 ≤ T + B ∧ T + B + B * ((lz.length - (k + 1) : Nat) : Int) ≤ 1000000000000) := ⟨by have := HST.out.t0; omega, by omega⟩
    obtain ⟨cs', hcs'⟩ : ∃ cs', cs' = addL (a + 1) (fun j => lnT r oneF j (nxt x.1)) cs := ⟨_, rfl⟩
    obtain ⟨es', hes'⟩ : ∃ es', es' = addL (a + 1) (fun j => lnT r (finF r) j (nxt x.1)) es := ⟨_, rfl⟩
    rw [← hcs'] at HC HG1 HB1
    rw [← hes'] at HC HG2 HB2
    have HC2 : Hid (Calls Try.prog 34 #[.pointer (some ⟨C, 0, none⟩), .pointer (some ⟨g, k * 6 + 3, none⟩), .int .i64 ((a : Int) + 1), .int .i64 (D : Int)] wr (WkPost wr lo C cb eb rb ro (D + 1) cs' es')) := HC.out
    clear HC hx hxz hcs' hes' hmul hnn ht1 hVN hxm hB hm' hlzl hbz' q0 q1 q2 q3 q4 q5
    go_wp2_with fail
    refine HC2.out.mono ?_
    rintro e w3 ⟨rfl, hI3, hC3⟩
    have HN : Hid (WsSt w w3 lo C cb eb rb ro (D + 1) r a B l lz (some ⟨g, 0, none⟩) c g (k + 1) cs' es' tc te (T + B)) :=
      ⟨by omega, HG1.out, HG2.out, HB1.out, HB2.out, HT0.out.1, HT0.out.2, hC3.mksOwn2 HST.out.own (by omega), hC3.boxP2 HST.out.box hgo, hI3, HST.out.chg.trans hC3⟩
    clear hI3 hC3 HC2
    go_wp2
    go_roundw
    case rel => exact ⟨k + 1, cs', es', T + B, by go_num, HN.out⟩
    case measure => (simp [intOf]; omega)
theorem walk_c (r : R) (D : Nat) (hD : D ≤ 8) : ∀ (m : Nat), WkC r D m
  | 0 => walk_step r D 0 hD (fun m' e => absurd e (by omega))
  | m + 1 => walk_step r D (m + 1) hD (fun m' e => by
    obtain rfl : m = m' := by omega
    exact walk_c r D hD m)


/-! ### SCnt2: how many lines there are, of a length and of each length, and how many of them end: both sides. Each contract holds for every argument, under the premises that it states. -/
section
variable {P : Program} {l : List Oper} {Q : Exit → Act → World → Prop} {md : Region.Mode} {S : World → Prop}
/-- two operations may come up, both wanted -/
theorem bothH {i j : Nat} {oi oj : Oper} {p q : List Oper} {fuel : Nat} {listed : Array Bool} {a : Act} {w : World}
    (hr : Region.ready md l.toArray listed = [i, j]) (hi : l.drop i = oi :: p) (hj : l.drop j = oj :: q) (hwi : Region.wanted oi (yielded l.toArray a.tmps) = true) (hwj : Region.wanted oj (yielded l.toArray a.tmps) = true)
    (h1 : ∀ K' : Act → World → Prop, Shut (∀ a w, S w → (S w → wpAnyH P md l.toArray Q S fuel (listed.setIfInBounds i true) a w) → K' a w) → Oper.wp P oi a w K' Q)
    (h2 : ∀ K' : Act → World → Prop, Shut (∀ a w, S w → (S w → wpAnyH P md l.toArray Q S fuel (listed.setIfInBounds j true) a w) → K' a w) → Oper.wp P oj a w K' Q) :
    wpAnyH P md l.toArray Q S (fuel + 1) listed a w :=
  wpAnyH_ready hr (by simp) (AllReadyH.cons (drop_aget hi) (fun K hK => by rw [if_pos hwi]; exact h1 K hK) (AllReadyH.cons (drop_aget hj) (fun K hK => by rw [if_pos hwj]; exact h2 K hK) AllReadyH.nil))
end
theorem sask_code (r : R) (p : P) (d : Int) : (saskP r p d).2.2 = srchC r p d := by
  unfold saskP
  by_cases h : srchC r p d = 0
  · rw [if_pos h, h]
  · rw [if_neg h]
theorem firstPos_at (xs : List Int) (k : Nat) (hk : k < xs.length) : firstPos (xs.drop k) k = if xs[k] > 0 then ((k : Int), 0) else firstPos (xs.drop (k + 1)) (k + 1) := by
  rw [List.drop_eq_getElem_cons hk]
  rfl
theorem psum_all (xs : List Int) (k : Nat) (h : xs.length ≤ k) : psum xs k = xs.sum := by
  unfold psum; rw [List.take_of_length_le h]

set_option maxHeartbeats 4000000 in
theorem l22Code_c (rb ro pb po : Nat) (r : R) (p : P) (d : Int) (pa sa : Option Addr) (pc sc : Nat) (w : World) (hr : R.At w rb ro r) (hp : P.At w pb po p pa pc sa sc) (h : PRow w p pa sa) (m1 : p.pits.length ≤ 16777216) (m2 : p.stores.length ≤ 16777216) :
    Calls Try.prog 21 #[.pointer (some ⟨rb, ro, none⟩), .pointer (some ⟨pb, po, none⟩), .int .i64 d] w fun e w' => e = .returned (.int .i64 (srchC r p d)) ∧ Below w.heap.size w w' := by
  have HA := l15Ask_c rb ro pb po r p d pa sa pc sc w hr hp h m1 m2
  rw [sask_code] at HA
  have HA := Lib.hid HA
  obtain ⟨c, hc⟩ : ∃ c, c = srchC r p d := ⟨_, rfl⟩
  rw [← hc] at HA ⊢
  clear hr hp h hc
  go_enter Try.func21, Try.ntmps21
  go_wp2_with fail
  refine HA.out.mono ?_
  rintro e w1 ⟨rfl, hb1⟩
  have HB := Lib.hid hb1
  clear hb1
  go_wp2
  go_ret
  exact ⟨rfl, HB.out⟩

def C22Res (w : World) (cs es : List Int) (e : Ending) (w' : World) : Prop := ∃ cb eb, e = .returned (.tuple #[.slice (some ⟨cb, 0, none⟩) cs.length cs.length, .slice (some ⟨eb, 0, none⟩) es.length es.length]) ∧ OwnI w' w.heap.size (some ⟨cb, 0, none⟩) cs.length cs ∧ OwnI w' w.heap.size (some ⟨eb, 0, none⟩) es.length es ∧ Below w.heap.size w w'
theorem addL_rep (f : Nat → Int) (D : Nat) : addL 0 f (List.replicate (D + 1) 0) = (List.range (D + 1)).map f := by
  apply List.ext_getElem?
  intro i
  rw [addL_get]
  by_cases h : i < D + 1
  · simp [h, List.getElem?_replicate]
  · simp [h, List.getElem?_replicate]
theorem made_row (w : World) (base D : Nat) (hb : base ≤ w.heap.size) (hD : D ≤ 8) : (w.alloc (.cells (madeCells #[.int .i64 0] (D + 1)) 2)).ownsRow base 2 1 (.slice (some ⟨w.heap.size, 0, none⟩) (D + 1) (D + 1)) (D + 1) ((List.replicate (D + 1) (0 : Int)).map (Value.int .i64)) := by
  have h := World.ownsRow_lit (base := base) (e := 2) (size := 1) w (madeCells #[.int .i64 0] (D + 1)) (D + 1) hb (by unfold maxLen; omega) (by rw [size_madeCells]; omega)
  rw [toList_madeCells_one] at h
  rw [List.map_replicate]
  exact h
theorem wki_mk (w : World) (rb ro D : Nat) (hD : D ≤ 8) (t : TypeId) (o1 o2 : Nat) (ho : (o1 = w.heap.size ∧ o2 = w.heap.size + 1) ∨ (o1 = w.heap.size + 1 ∧ o2 = w.heap.size)) :
    WkI (((w.alloc (.cells (madeCells #[.int .i64 0] (D + 1)) 2)).alloc (.cells (madeCells #[.int .i64 0] (D + 1)) 2)).alloc (.cells #[.pointer (some ⟨rb, ro, none⟩), .slice (some ⟨o1, 0, none⟩) (D + 1) (D + 1), .slice (some ⟨o2, 0, none⟩) (D + 1) (D + 1)] t)) w.heap.size (w.heap.size + 2) o1 o2 rb ro (D + 1) (List.replicate (D + 1) 0) (List.replicate (D + 1) 0) := by
  have r1 := ((made_row w w.heap.size D (Nat.le_refl _) hD).alloc (.cells (madeCells #[.int .i64 0] (D + 1)) 2)).alloc (.cells #[.pointer (some ⟨rb, ro, none⟩), .slice (some ⟨o1, 0, none⟩) (D + 1) (D + 1), .slice (some ⟨o2, 0, none⟩) (D + 1) (D + 1)] t)
  have r2 := (made_row (w.alloc (.cells (madeCells #[.int .i64 0] (D + 1)) 2)) w.heap.size D (by simp) hD).alloc (.cells #[.pointer (some ⟨rb, ro, none⟩), .slice (some ⟨o1, 0, none⟩) (D + 1) (D + 1), .slice (some ⟨o2, 0, none⟩) (D + 1) (D + 1)] t)
  simp only [World.size_alloc] at r2
  have FX := (Fr.start ((w.alloc (.cells (madeCells #[.int .i64 0] (D + 1)) 2)).alloc (.cells (madeCells #[.int .i64 0] (D + 1)) 2))).alloc #[.pointer (some ⟨rb, ro, none⟩), .slice (some ⟨o1, 0, none⟩) (D + 1) (D + 1), .slice (some ⟨o2, 0, none⟩) (D + 1) (D + 1)] t
  have x0 := FX.at 0 rfl 0 _ rfl
  have x1 := FX.at 0 rfl 1 _ rfl
  have x2 := FX.at 0 rfl 2 _ rfl
  simp only [World.size_alloc] at x0 x1 x2
  refine ⟨x0, x1, x2, ?_, ?_, by simp, by simp, by omega, by omega, by omega, rfl⟩
  · rcases ho with ⟨h1, h2⟩ | ⟨h1, h2⟩
    · rw [h1] at r1 ⊢; exact r1
    · rw [h1] at r2 ⊢; exact r2
  · rcases ho with ⟨h1, h2⟩ | ⟨h1, h2⟩
    · rw [h2] at r2 ⊢; exact r2
    · rw [h2] at r1 ⊢; exact r1
set_option maxRecDepth 100000 in
set_option maxHeartbeats 8000000 in
theorem l22Count_c (rb ro pb po : Nat) (r : R) (p : P) (hok : p.ok r = true) (D : Nat) (hD : D ≤ 8) (pa sa : Option Addr) (pc sc : Nat) (w : World) (hr : R.At w rb ro r) (hp : P.At w pb po p pa pc sa sc) (h : PRow w p pa sa) :
    Calls Try.prog 23 #[.pointer (some ⟨rb, ro, none⟩), .pointer (some ⟨pb, po, none⟩), .int .i64 (D : Int)] w (C22Res w (cntL r p D) (finL r p D)) := by
  have hrb : rb < w.heap.size := World.block_lt_of_cell? w _ hr.c0
  have hpb : pb < w.heap.size := World.block_lt_of_cell? w _ hp.c0
  have hbz := Bz_le D hD
  have hO : RowO w.heap.size w pa p.pits ∧ RowO w.heap.size w sa p.stores := by
    obtain ⟨hbd, _, t, hB, _, _⟩ := P.ok_parts hok
    have := hbd.lo; have := hB.lp; have := hB.ls
    obtain ⟨b1, o1, e1, g1, _⟩ := Ints.open h.pits (by omega)
    obtain ⟨b2, o2, e2, g2, _⟩ := Ints.open h.stores (by omega)
    exact ⟨⟨h.pits, fun b o t e => by rw [e1] at e; cases e; exact .inl g1⟩, ⟨h.stores, fun b o t e => by rw [e2] at e; cases e; exact .inl g2⟩⟩
  have HSV : Hid (∀ (W : World) (cb eb : Nat), Below w.heap.size w W → WkI W w.heap.size (w.heap.size + 2) cb eb rb ro (D + 1) (List.replicate (D + 1) 0) (List.replicate (D + 1) 0) → Calls Try.prog 34 #[.pointer (some ⟨w.heap.size + 1 + 1, 0, none⟩), .pointer (some ⟨pb, po, none⟩), .int .i64 0, .int .i64 (D : Int)] W (WkPost W w.heap.size (w.heap.size + 2) cb eb rb ro (D + 1) (cntL r p D) (finL r p D))) := by
    intro W cb eb hW hI
    have h1 := walk_c r D hD D p hok 0 (by omega) w.heap.size (w.heap.size + 2) cb eb rb ro pb po pa sa pc sc W _ _ 0 hI (hr.below hW hrb) hrb (hp.below hW hpb) (.inl hpb) (hO.1.below hW (Nat.le_refl _)) (hO.2.below hW (Nat.le_refl _)) (fun v hv => by rw [List.eq_of_mem_replicate hv]; omega) (fun v hv => by rw [List.eq_of_mem_replicate hv]; omega) (by omega) (by omega)
    rw [addL_rep, addL_rep] at h1
    exact h1
  have hmk : ∀ W : World, (Instr.makeSlice 24 (.int .i64 ((D : Int) + 1)) (.int .i64 ((D : Int) + 1))).run Try.prog W = .ok (.slice (some ⟨W.heap.size, 0, none⟩) (D + 1) (D + 1)) (W.alloc (.cells (madeCells #[.int .i64 0] (D + 1)) 2)) := by
    intro W
    obtain ⟨i0, hi, hz0, hz1, hz2⟩ := info_parts infoI
    have h1 := run_make (P := Try.prog) W 24 2 i0 (.int .i64 0) Try.underlying24 hi hz0 .i64 .i64 ((D : Int) + 1) ((D : Int) + 1) (by omega) (Int.le_refl _) (by rw [hz2]; omega) (by omega)
    have e1 : ((D : Int) + 1).toNat = D + 1 := by omega
    rw [e1, hz1, Nat.mul_one] at h1
    exact h1
  have hwd : IntKind.i64.wrap ((D : Int) + 1) = (D : Int) + 1 := IntWalk.i64_in _ (by omega)
  have HLC := Lib.hid (cntL_len r p D)
  have HLF := Lib.hid (finL_len r p D)
  have HW1 := Lib.hid (wki_mk w rb ro D hD 69 w.heap.size (w.heap.size + 1) (.inl ⟨rfl, rfl⟩))
  have HW2 := Lib.hid (wki_mk w rb ro D hD 69 (w.heap.size + 1) w.heap.size (.inr ⟨rfl, rfl⟩))
  have HBA := Lib.hid (fun (o1 o2 o3 : Obj) => (below_alloc3 w o1 o2 o3))
  obtain ⟨xs, hxs⟩ : ∃ xs, xs = cntL r p D := ⟨_, rfl⟩
  obtain ⟨ys, hys⟩ : ∃ ys, ys = finL r p D := ⟨_, rfl⟩
  rw [← hxs] at HSV HLC ⊢
  rw [← hys] at HSV HLF ⊢
  clear hxs hys hr hp h hok hO hrb hpb hbz
  go_enter Try.func23, Try.ntmps23
  go_wp2_with fail
  refine heldH (S := fun W => True) (n := 10) (listed := #[false, false, false, false, false, false, false, false, false, false]) (by kernel_rfl) (by rfl) (by rfl) ?_ (fun hHeld => ?_)
  (focus ((try dsimp only); (first | done | ((trivial); done))))
  (refine takeH (i := 0) (v := ?_) (by decide +kernel) (by decide +kernel) (by kernel_rfl) (by rfl) (by exact fun _ _ _ h => h) (by rfl) ?_ (by assumption) ?_); rotate_left; (focus (intro w hSw; (try dsimp only at hSw); go_simp; (try with_reducible rfl); done)); (try simp only [Act.put, List.setIfInBounds_toArray, List.set_cons_zero, List.set_cons_succ])
  (refine takeH (i := 1) (v := ?_) (by decide +kernel) (by decide +kernel) (by kernel_rfl) (by rfl) (by exact fun _ _ _ h => h) (by rfl) ?_ (by assumption) ?_); rotate_left; (focus (intro w hSw; (try dsimp only at hSw); go_simp; (try with_reducible rfl); done)); (try simp only [Act.put, List.setIfInBounds_toArray, List.set_cons_zero, List.set_cons_succ])
  (refine takeH (i := 2) (v := ?_) (by decide +kernel) (by decide +kernel) (by kernel_rfl) (by rfl) (by exact fun _ _ _ h => h) (by rfl) ?_ (by assumption) ?_); rotate_left; (focus (intro w hSw; (try dsimp only at hSw); go_simp; (try with_reducible rfl); done)); (try simp only [Act.put, List.setIfInBounds_toArray, List.set_cons_zero, List.set_cons_succ])
  (refine takeH (i := 4) (v := ?_) (by decide +kernel) (by decide +kernel) (by kernel_rfl) (by rfl) (by exact fun _ _ _ h => h) (by rfl) ?_ (by assumption) ?_); rotate_left; (focus (intro w hSw; (try dsimp only at hSw); go_simp; (try with_reducible rfl); done)); (try simp only [Act.put, List.setIfInBounds_toArray, List.set_cons_zero, List.set_cons_succ])
  (refine takeH (i := 5) (v := ?_) (by decide +kernel) (by decide +kernel) (by kernel_rfl) (by rfl) (by exact fun _ _ _ h => h) (by rfl) ?_ (by assumption) ?_); rotate_left; (focus (intro w hSw; (try dsimp only at hSw); go_simp; (try with_reducible rfl); done)); (try simp only [Act.put, List.setIfInBounds_toArray, List.set_cons_zero, List.set_cons_succ])
  refine bothH (i := 3) (j := 6) (by decide +kernel) (by rfl) (by rfl) (by rfl) (by rfl) (fun K hK => ?_) (fun K hK => ?_)
  go_simp
  (skip)
  refine hK.out _ _ ?_ (fun hHeld' => ?_)
  (focus ((try dsimp only); (first | done | ((trivial); done))))
  clear hK K hHeld
  have hHeld := hHeld'
  clear hHeld'
  (try simp only [Act.put, List.setIfInBounds_toArray, List.set_cons_zero, List.set_cons_succ])
  refine nextH (i := 6) (by decide +kernel) (by rfl) (by rfl) (fun K hK => ?_)
  go_simp
  (skip)
  refine hK.out _ _ ?_ (fun hHeld' => ?_)
  (focus ((try dsimp only); (first | done | ((trivial); done))))
  clear hK K hHeld
  have hHeld := hHeld'
  clear hHeld'
  (try simp only [Act.put, List.setIfInBounds_toArray, List.set_cons_zero, List.set_cons_succ])
  (refine takeH (i := 7) (v := ?_) (by decide +kernel) (by decide +kernel) (by kernel_rfl) (by rfl) (by exact fun _ _ _ h => h) (by rfl) ?_ (by assumption) ?_); rotate_left; (focus (intro w hSw; (try dsimp only at hSw); go_simp; (try with_reducible rfl); done)); (try simp only [Act.put, List.setIfInBounds_toArray, List.set_cons_zero, List.set_cons_succ])
  refine nextH (i := 8) (by decide +kernel) (by rfl) (by rfl) (fun K hK => ?_)
  go_simp
  (skip)
  refine hK.out _ _ ?_ (fun hHeld' => ?_)
  (focus ((try dsimp only); (first | done | ((trivial); done))))
  clear hK K hHeld
  have hHeld := hHeld'
  clear hHeld'
  (try simp only [Act.put, List.setIfInBounds_toArray, List.set_cons_zero, List.set_cons_succ])
  (refine takeH (i := 9) (v := ?_) (by decide +kernel) (by decide +kernel) (by kernel_rfl) (by rfl) (by exact fun _ _ _ h => h) (by rfl) ?_ (by assumption) ?_); rotate_left; (focus (intro w hSw; (try dsimp only at hSw); go_simp; (try with_reducible rfl); done)); (try simp only [Act.put, List.setIfInBounds_toArray, List.set_cons_zero, List.set_cons_succ])
  refine wpAnyH_done (by decide +kernel) ?_ _
  rotate_left
  go_simp
  (skip)
  refine hK.out _ _ ?_ (fun hHeld' => ?_)
  (focus ((try dsimp only); (first | done | ((trivial); done))))
  clear hK K hHeld
  have hHeld := hHeld'
  clear hHeld'
  (try simp only [Act.put, List.setIfInBounds_toArray, List.set_cons_zero, List.set_cons_succ])
  refine nextH (i := 3) (by decide +kernel) (by rfl) (by rfl) (fun K hK => ?_)
  go_simp
  (skip)
  refine hK.out _ _ ?_ (fun hHeld' => ?_)
  (focus ((try dsimp only); (first | done | ((trivial); done))))
  clear hK K hHeld
  have hHeld := hHeld'
  clear hHeld'
  (try simp only [Act.put, List.setIfInBounds_toArray, List.set_cons_zero, List.set_cons_succ])
  (refine takeH (i := 7) (v := ?_) (by decide +kernel) (by decide +kernel) (by kernel_rfl) (by rfl) (by exact fun _ _ _ h => h) (by rfl) ?_ (by assumption) ?_); rotate_left; (focus (intro w hSw; (try dsimp only at hSw); go_simp; (try with_reducible rfl); done)); (try simp only [Act.put, List.setIfInBounds_toArray, List.set_cons_zero, List.set_cons_succ])
  refine nextH (i := 8) (by decide +kernel) (by rfl) (by rfl) (fun K hK => ?_)
  go_simp
  (skip)
  refine hK.out _ _ ?_ (fun hHeld' => ?_)
  (focus ((try dsimp only); (first | done | ((trivial); done))))
  clear hK K hHeld
  have hHeld := hHeld'
  clear hHeld'
  (try simp only [Act.put, List.setIfInBounds_toArray, List.set_cons_zero, List.set_cons_succ])
  (refine takeH (i := 9) (v := ?_) (by decide +kernel) (by decide +kernel) (by kernel_rfl) (by rfl) (by exact fun _ _ _ h => h) (by rfl) ?_ (by assumption) ?_); rotate_left; (focus (intro w hSw; (try dsimp only at hSw); go_simp; (try with_reducible rfl); done)); (try simp only [Act.put, List.setIfInBounds_toArray, List.set_cons_zero, List.set_cons_succ])
  refine wpAnyH_done (by decide +kernel) ?_ _
  all_goals (go_wp2_with fail)
  all_goals (refine (HSV.out _ _ _ (by first | exact HBA.out _ _ _ | exact (HBA.out _ _ _).drew) (by first | exact HW1.out | exact HW2.out | exact HW1.out.below (Below.refl _ _).drew | exact HW2.out.below (Below.refl _ _).drew)).mono ?_)
  all_goals (rintro e w2 ⟨rfl, hI2, hC2⟩)
  all_goals (have k1 : w2.cell? ⟨w.heap.size + 1 + 1, 1, none⟩ = _ := hI2.k1)
  all_goals (have k2 : w2.cell? ⟨w.heap.size + 1 + 1, 2, none⟩ = _ := hI2.k2)
  all_goals (have HI2 := Lib.hid hI2)
  all_goals (have HB2 : Hid (Below w.heap.size w w2) := hC2.below (by first | exact HBA.out _ _ _ | exact (HBA.out _ _ _).drew) (Nat.le_refl _))
  all_goals (clear hI2 hC2)
  all_goals (go_wp2_with fail)
  all_goals (go_quiet (fail))
  all_goals go_wp2
  all_goals go_ret2
  · refine ⟨w.heap.size + 1, w.heap.size, by rw [HLC.out, HLF.out]; rfl, ?_, ?_, HB2.out.trans (below_draws _ _ _)⟩
    · unfold OwnI; rw [HLC.out]; exact own_below HI2.out.rc (below_draws _ _ _) (Nat.le_refl _)
    · unfold OwnI; rw [HLF.out]; exact own_below HI2.out.re (below_draws _ _ _) (Nat.le_refl _)
  · refine ⟨w.heap.size, w.heap.size + 1, by rw [HLC.out, HLF.out]; rfl, ?_, ?_, HB2.out.trans (below_draws _ _ _)⟩
    · unfold OwnI; rw [HLC.out]; exact own_below HI2.out.rc (below_draws _ _ _) (Nat.le_refl _)
    · unfold OwnI; rw [HLF.out]; exact own_below HI2.out.re (below_draws _ _ _) (Nat.le_refl _)


end Go.Proofs.Ytolfanonjmfgcaa
