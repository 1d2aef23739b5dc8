/- FcK: all facts of a move in plain terms; a sowing and a teller side by side in memory. Plain facts, under the premises that each names. -/
import Derived.Test.YtbjgigdkbjabaaaFcT
import Derived.Test.YtbjgigdkbjabaaaRes
import Derived.Test.YtbjgigdkbjabaaaNew
namespace Go.Proofs.Ytbjgigdkbjabaaa
set_option linter.unusedSimpArgs false
set_option linter.unusedVariables false
set_option linter.unnecessarySimpa false
open Go.RowKit Go.ChangeShapes Go.WideShapes Go.ChangeAt Go.Joins

def capF (P : List Int) (l : List Int) : List Fc := l.map fun k => ⟨3, k, P.getD k.toNat 0⟩
theorem capF_succ (P l : List Int) {j : Nat} (h : j < l.length) : capF P (l.take (j + 1)) = capF P (l.take j) ++ [⟨3, l[j], P.getD l[j].toNat 0⟩] := by
  unfold capF
  rw [List.take_succ_eq_append_getElem h, List.map_append]
  rfl
def spareF (P : List Int) (cap raw : List Int) (last : Int) : List Fc := if cap = [] ∧ ¬ raw = [] then [⟨4, last, gainP P raw⟩] else []
def endFc (r : R) (L : Lap) : List Fc := [⟨if (r.again && decide (L.last = -1)) = true then 5 else 6, 0, 0⟩]
def allF (r : R) (p : P) (fr : Int) (L : Lap) : List Fc :=
  lapsF r p.player fr p.pits p.stores ++ capF L.pits (capP r p.player L.pits L.last) ++ spareF L.pits (capP r p.player L.pits L.last) (rawP r p.player L.pits L.last) L.last ++ endFc r L
def factsP (r : R) (p : P) (move : Int) : List Fc × Int :=
  if (doneP r p move).code = 0 then
    match sowP r p.player (p.player * r.pits + move) p.pits p.stores with
    | some (L, _) => (allF r p (p.player * r.pits + move) L, 0)
    | none => ([], 0)
  else ([], (doneP r p move).code)
theorem factsP_ok {r : R} {p : P} {move n : Int} {L : Lap} (h : (doneP r p move).code = 0) (ho : sowP r p.player (p.player * r.pits + move) p.pits p.stores = some (L, n)) : factsP r p move = (allF r p (p.player * r.pits + move) L, 0) := by
  unfold factsP
  rw [if_pos h, ho]
theorem factsP_bad {r : R} {p : P} {move : Int} (h : ¬ (doneP r p move).code = 0) : factsP r p move = ([], (doneP r p move).code) := if_neg h
theorem again_last {r : R} {p : P} {move n : Int} {L : Lap} (h : (doneP r p move).code = 0) (ho : sowP r p.player (p.player * r.pits + move) p.pits p.stores = some (L, n)) : (makeP r p move).again = (r.again && decide (L.last = -1)) := by
  obtain ⟨hc0, _⟩ := doneP_zero h
  have hl : (doneP r p move).last = L.last := by
    have h1 := h
    rw [doneP_ok hc0 ho] at h1 ⊢
    unfold doneL at h1 ⊢
    by_cases a : r.slam = 1 ∧ slamP r p.player L.pits L.last = true
    · rw [if_pos a] at h1; simp [Done.bad] at h1
    · rw [if_neg a] at h1 ⊢
      split at h1
      · simp [Done.bad] at h1
      · rename_i b; rw [if_neg b]
  rw [makeP_ok h, hl]
theorem stepS_len (s : FsS) (q : Int) : (outF (stepS s q)).length ≤ (outF s).length + 2 := by
  unfold stepS outF step1
  dsimp only
  split
  · unfold openF
    have := (sowF_len q []).1
    simp only [List.length_append, List.length_cons, List.length_nil] at this ⊢
    omega
  · have := (sowF_len q s.cur).1
    simp only [List.length_append]
    omega
theorem foldS_len : ∀ (X : List Int) (s : FsS), (outF (X.foldl stepS s)).length ≤ (outF s).length + 2 * X.length
  | [], s => by simp
  | q :: X, s => by
    have h1 := foldS_len X (stepS s q)
    have h2 := stepS_len s q
    simp only [List.foldl_cons, List.length_cons]
    omega
/-- what is known where a move is done -/
theorem facts_known {r : R} {p : P} {move n : Int} {L : Lap} (h1 : codeP r p move = 0) (h2 : sowP r p.player (p.player * r.pits + move) p.pits p.stores = some (L, n)) :
    ∃ (pn fn : Nat) (t : Int), p.player = pn ∧ pn ≤ 1 ∧ p.player * r.pits + move = fn ∧ fn < p.pits.length ∧ 0 < p.pits.getD fn 0 ∧ r.Bd ∧ Brd r p.pits p.stores t ∧ t ≤ 96 ∧ p.ok r = true ∧ (L.path.length : Int) ≤ 9600 ∧ (lapsF r p.player fn p.pits p.stores).length ≤ 20000 ∧
      outF (L.path.foldl stepS ⟨[], [], p.pits, fn, 0⟩) = lapsF r p.player fn p.pits p.stores := by
  obtain ⟨hok, mv, hnz⟩ := codeP_zero h1
  obtain ⟨hbd, ⟨pn, hpn, hpn1⟩, t, hB, ht0, ht1⟩ := P.ok_parts hok
  obtain ⟨fn, hfn, hfl⟩ := from_ok hok mv
  have hnn := hB.np _ (List.getElem_mem hfl)
  have hpos : 0 < p.pits.getD fn 0 := by
    rw [hfn] at hnz
    simp [hfl] at hnz ⊢
    omega
  have h3 := h2
  rw [hfn] at h3
  have hrun := lapsF_run hbd p.player fn (by omega) p.pits p.stores hB hfl hpos h3
  obtain ⟨k1, k2, k3⟩ := lapP_brd hbd p.player fn (by omega) p.pits p.stores [] t hB hfl
  obtain ⟨j1, j2, j3, j4, j5⟩ := sowGo_brd hbd p.player (by omega) 99 _ L n k1 k3 h3
  have hle := nn_le hB.np _ (List.getElem_mem hfl)
  have hs := nn_sum hB.ns
  have hsm := hB.sm
  have hpl : (L.path.length : Int) ≤ 9600 := by simp at k2; omega
  refine ⟨pn, fn, t, hpn, hpn1, hfn, hfl, hpos, hbd, hB, ht1, hok, hpl, ?_, hrun⟩
  rw [← hrun]
  have := foldS_len L.path ⟨[], [], p.pits, fn, 0⟩
  simp [outF] at this ⊢
  omega
theorem factsP_len (r : R) (p : P) (move : Int) : (factsP r p move).1.length ≤ 1048576 := by
  by_cases h : (doneP r p move).code = 0
  · obtain ⟨hc0, L, n, ho⟩ := doneP_zero h
    rw [factsP_ok h ho]
    obtain ⟨pn, fn, t, hpn, hpn1, hfn, hfl, hpos, hbd, hB, ht1, hok, hpl, hlen, _⟩ := facts_known hc0 ho
    obtain ⟨_, _, _, t', hB', h1', hpo⟩ := sowP_brd hc0 ho
    have hc := (capP_ok hbd p.player L.pits L.last hB'.lp hpo).2
    rw [← hfn] at hlen
    unfold allF
    have h5 : (spareF L.pits (capP r p.player L.pits L.last) (rawP r p.player L.pits L.last) L.last).length ≤ 1 := by
      unfold spareF
      split <;> simp
    simp only [List.length_append, capF, List.length_map, endFc, List.length_cons, List.length_nil] at hc ⊢
    omega
  · rw [factsP_bad h]
    simp

/-- ahead of a lap or behind the last one -/
def NxtP (r : R) (pn : Nat) (FACTS : List Fc) (Lf : Lap) (L : Lap) (laps fr : Int) (more : Bool) (l : List Fc) : Prop :=
  (more = true ∧ ∃ (k fn : Nat) (n t : Int), fr = fn ∧ fn < L.pits.length ∧ 0 < L.pits.getD fn 0 ∧ laps + k = 99 ∧ 0 ≤ laps ∧ Brd r L.pits L.stores t ∧ 0 ≤ t ∧ t ≤ 96 ∧ (L.path.length : Int) ≤ laps * 96 ∧ l.length ≤ 2 * L.path.length + laps ∧ (∀ q ∈ L.path, PlaceOk r q) ∧
    sowGo r pn k (lapP r pn fn L.pits L.stores L.path) = some (Lf, n) ∧ l ++ lapF fn (L.pits.getD fn 0) ((lapP r pn fn L.pits L.stores L.path).path.drop L.path.length) ++ lapsGo r pn k (lapP r pn fn L.pits L.stores L.path) = FACTS) ∨
  (more = false ∧ L = Lf ∧ l = FACTS)
theorem NxtP.next {r : R} {pn : Nat} {FACTS : List Fc} {Lf N : Lap} {laps t n : Int} {k : Nat} {l : List Fc} (hlk : laps + k = 99) (hl0 : 0 ≤ laps) (hN : Brd r N.pits N.stores t) (hpo : PlaceOk r N.last) (ht0 : 0 ≤ t) (ht : t ≤ 96) (hpl : (N.path.length : Int) ≤ (laps + 1) * 96) (hll : l.length ≤ 2 * N.path.length + (laps + 1))
    (hpk : ∀ q ∈ N.path, PlaceOk r q) (hgo : sowGo r pn k N = some (Lf, n)) (hfc : l ++ lapsGo r pn k N = FACTS) : NxtP r pn FACTS Lf N (laps + 1) N.last (moreP r N) l := by
  cases hm : moreP r N
  · refine .inr ⟨rfl, ?_, ?_⟩
    · cases k with
      | zero => simp [sowGo, hm] at hgo; exact hgo.1
      | succ k => simp [sowGo, hm] at hgo; exact hgo.1
    · cases k with
      | zero => simpa [lapsGo] using hfc
      | succ k => simpa [lapsGo, hm] using hfc
  · cases k with
    | zero => simp [sowGo, hm] at hgo
    | succ k =>
      have hl := moreP_last hm
      obtain ⟨fn, hfn⟩ : ∃ fn : Nat, N.last = fn := ⟨N.last.toNat, by omega⟩
      have hfl : fn < N.pits.length := by have := hN.lp; rcases hpo with h | h <;> omega
      have hpos : 0 < N.pits.getD fn 0 := by
        have : 1 < N.pits.getD N.last.toNat 0 := by simp [moreP] at hm; simpa using hm.2
        rw [hfn] at this
        simp only [Int.toNat_natCast] at this
        omega
      simp only [sowGo, hm, if_true] at hgo
      simp only [lapsGo, hm, if_true] at hfc
      rw [hfn] at hgo hfc
      refine .inl ⟨rfl, k, fn, n, t, hfn, hfl, hpos, by omega, by omega, hN, ht0, ht, hpl, hll, hpk, hgo, ?_⟩
      rw [List.append_assoc]
      simpa using hfc

theorem slice_loF (a : Option Addr) (n m k c : Nat) (r : Int) (hr : (k : Int) = r) (hk : k < n) (hm : n - k = m) (hc : n ≤ c) (b o : Nat) (ha : a = some ⟨b, o, none⟩) (W : World) : (Instr.slice 24 (.slice a n c) (some (.int .i64 r)) none none).run Try.prog W = .ok (.slice (some ⟨b, o + k, none⟩) m (c - k)) W := by
  subst hr hm ha
  have h := run_slice_l (P := Try.prog) W 24 (some ⟨b, o, none⟩) n c (by kernel_rfl) .i64 (k : Int) (by omega) (by omega)
  have hz : (sizeOf (Try.prog.elem 24)).run Try.prog W = .ok 1 W := by kernel_rfl
  rw [h, hz]
  have hne : ¬ c - k = 0 := by omega
  have hne2 : ¬ c = k := by omega
  by_cases hk0 : k = 0 <;> simp [Result.andThen, sliced, Addr.add, hne, hne2, hk0] <;> omega
theorem own_keep {base : Nat} {e : TypeId} {size n : Nat} {v : Value} {vs : List Value} {w w' : World} (h : w.ownsRow base e size v n vs) (hk : ∀ k, v.ownBlock = some k → w'.heap[k]? = w.heap[k]?) : w'.ownsRow base e size v n vs := by
  obtain ⟨k1, k2 | ⟨g, cap, cur, hv, hb, hg, r⟩⟩ := h
  · exact ⟨k1, .inl k2⟩
  · exact ⟨k1, .inr ⟨g, cap, cur, hv, hb, by rw [hk g (by rw [hv]; rfl)]; exact hg, r⟩⟩
theorem SnI.keep {base : Nat} {w w' : World} {nb no pg pc sg sc : Nat} {pits stores : List Int} (h : SnI base w nb no pg pc sg sc pits stores) (h1 : w'.heap[nb]? = w.heap[nb]?) (h2 : w'.heap[pg]? = w.heap[pg]?) (h3 : w'.heap[sg]? = w.heap[sg]?) : SnI base w' nb no pg pc sg sc pits stores :=
  ⟨cell_stab h.c0 h1, cell_stab h.c1 h1, own_keep h.op (fun k hk => by cases hk; exact h2), own_keep h.os (fun k hk => by cases hk; exact h3), h.nb0, h.n1, h.n2, h.n3⟩
theorem Fld.keep {w w' : World} {nb no : Nat} {last laps : Int} (h : Fld w nb no last laps) (h1 : w'.heap[nb]? = w.heap[nb]?) : Fld w' nb no last laps :=
  ⟨cell_stab h.c2 h1, cell_stab h.c3 h1, fun o => (World.frozen?_of_block (w := w) h1).trans (h.fz o)⟩
/-- a sowing and a teller, apart -/
structure LpSt (B : Nat) (W wr : World) (r : R) (pn tb sb pg qc sg tc : Nat) (L : Lap) (laps : Int) (ta : Option Addr) (tac : Nat) (l : List Fc) (fa : Option Addr) (fc : Nat) : Prop where
  sn : SnI B wr sb 10 pg qc sg tc L.pits L.stores
  fl : Fld wr sb 10 L.last laps
  sw : SwF wr sb r pn ta L.path.length tac
  ow : OwnI wr B ta tac L.path
  ap : TAp ta L.path.length tac sb pg sg
  tl : TlSt wr B tb fa fc l
  n1 : ¬ tb = sb ∧ ¬ tb = pg ∧ ¬ tb = sg
  n2 : ∀ k, (Value.slice fa l.length fc).ownBlock = some k → ¬ k = sb ∧ ¬ k = pg ∧ ¬ k = sg
  n3 : ∀ k, (Value.slice ta L.path.length tac).ownBlock = some k → ¬ k = tb ∧ ¬ (Value.slice fa l.length fc).ownBlock = some k
  bl : Below B W wr
  bs : B ≤ W.heap.size
theorem LpSt.below {B : Nat} {W wr w' : World} {r : R} {pn tb sb pg qc sg tc : Nat} {L : Lap} {laps : Int} {ta : Option Addr} {tac : Nat} {l : List Fc} {fa : Option Addr} {fc : Nat}
    (h : LpSt B W wr r pn tb sb pg qc sg tc L laps ta tac l fa fc) (hb : Below wr.heap.size wr w') : LpSt B W w' r pn tb sb pg qc sg tc L laps ta tac l fa fc :=
  ⟨h.sn.below hb, h.fl.below hb, h.sw.below hb, own_below h.ow hb (Nat.le_refl _), h.ap, h.tl.below hb, h.n1, h.n2, h.n3, h.bl.trans (hb.mono (Nat.le_trans h.bs h.bl.size)), h.bs⟩
/-- behind a lap of the sowing -/
theorem LpSt.lap {B : Nat} {W wr w' : World} {r : R} {pn tb sb pg qc sg tc : Nat} {L L' : Lap} {laps : Int} {ta ta' : Option Addr} {tac tac' : Nat} {l : List Fc} {fa : Option Addr} {fc : Nat}
    (h : LpSt B W wr r pn tb sb pg qc sg tc L laps ta tac l fa fc) (sn : SnI B w' sb 10 pg qc sg tc L'.pits L'.stores) (fl : Fld w' sb 10 L'.last (laps + 1)) (sw : SwF w' sb r pn ta' L'.path.length tac') (ow : OwnI w' B ta' tac' L'.path) (ap : TAp ta' L'.path.length tac' sb pg sg)
    (hb : BelK (fun k => k = tb ∨ (Value.slice fa l.length fc).ownBlock = some k) B wr w') (ak : ∀ k, (Value.slice ta' L'.path.length tac').ownBlock = some k → ¬ (k = tb ∨ (Value.slice fa l.length fc).ownBlock = some k)) :
    LpSt B W w' r pn tb sb pg qc sg tc L' (laps + 1) ta' tac' l fa fc :=
  ⟨sn, fl, sw, ow, ap, h.tl.keep (hb.keep tb (.inl rfl)) (fun k hk => hb.keep k (.inr hk)), h.n1, h.n2, fun k hk => ⟨fun e => ak k hk (.inl e), fun e => ak k hk (.inr e)⟩, h.bl.trans hb.bel, h.bs⟩
/-- behind a lap's telling -/
theorem LpSt.told {B : Nat} {W wr w' : World} {r : R} {pn tb sb pg qc sg tc : Nat} {L : Lap} {laps : Int} {ta : Option Addr} {tac : Nat} {l l' : List Fc} {fa fa' : Option Addr} {fc fc' : Nat}
    (h : LpSt B W wr r pn tb sb pg qc sg tc L laps ta tac l fa fc) (tl : TlSt w' B tb fa' fc' l') (hb : BelK (fun k => k = sb ∨ k = pg ∨ k = sg ∨ (Value.slice ta L.path.length tac).ownBlock = some k) B wr w')
    (ak : ∀ k, (Value.slice fa' l'.length fc').ownBlock = some k → ¬ (k = sb ∨ k = pg ∨ k = sg ∨ (Value.slice ta L.path.length tac).ownBlock = some k)) :
    LpSt B W w' r pn tb sb pg qc sg tc L laps ta tac l' fa' fc' :=
  have k1 := hb.keep sb (.inl rfl)
  ⟨h.sn.keep k1 (hb.keep pg (.inr (.inl rfl))) (hb.keep sg (.inr (.inr (.inl rfl)))), h.fl.keep k1, h.sw.same (fun j => cell_block k1 j), own_keep h.ow (fun k hk => hb.keep k (.inr (.inr (.inr hk)))), h.ap, tl, h.n1,
    fun k hk => ⟨fun e => ak k hk (.inl e), fun e => ak k hk (.inr (.inl e)), fun e => ak k hk (.inr (.inr (.inl e)))⟩, fun k hk => ⟨(h.n3 k hk).1, fun e => ak k e (.inr (.inr (.inr hk)))⟩, h.bl.trans hb.bel, h.bs⟩

/-- a teller that grows, with what it keeps -/
structure PuSt (K : Nat → Prop) (B : Nat) (w6 wr : World) (tb : Nat) (fa : Option Addr) (fc : Nat) (l : List Fc) : Prop where
  tl : TlSt wr B tb fa fc l
  bl : BelK K B w6 wr
  ak : ∀ k, (Value.slice fa l.length fc).ownBlock = some k → ¬ K k
  nk : ¬ K tb
theorem PuSt.below {K : Nat → Prop} {B tb fc : Nat} {w6 wr w' : World} {fa : Option Addr} {l : List Fc} (h : PuSt K B w6 wr tb fa fc l) (hb : Below wr.heap.size wr w') : PuSt K B w6 w' tb fa fc l :=
  ⟨h.tl.below hb, h.bl.below (Nat.le_trans h.tl.tb0 (Nat.le_of_lt h.tl.lt)) hb, h.ak, h.nk⟩
theorem PuSt.push {K : Nat → Prop} {B tb fc fc' : Nat} {w6 wr w2 : World} {fa fa' : Option Addr} {l : List Fc} {x : Fc} (h : PuSt K B w6 wr tb fa fc l) (hg : (wr.alloc (.cells x.cells 95)).grownBy w2 (Value.slice fa l.length fc).ownBlock)
    (ho : w2.ownsRow B 95 3 (.slice fa' (l.length + 1) fc') (l.length + 1) (flat fcRL.f l ++ x.cells.toList)) (hn : ∀ k, (Value.slice fa' (l.length + 1) fc').ownBlock = some k → (Value.slice fa l.length fc).ownBlock = some k ∨ wr.heap.size + 1 ≤ k) :
    PuSt K B w6 (w2.setCell ⟨tb, 9, none⟩ (.slice fa' (l.length + 1) fc')) tb fa' fc' (l ++ [x]) := by
  have h1 := h.below (below_alloc1 wr (.cells x.cells 95))
  refine ⟨h1.tl.push hg ho (fun k hk => by have := hn k hk; simpa using this), (h1.bl.grown hg (Nat.le_trans h1.tl.tb0 (Nat.le_of_lt h1.tl.lt)) (fun k hk => (h1.tl.ow.lt k hk).1) h1.ak).setCell h.tl.tb0 h.nk _, ?_, h.nk⟩
  intro k hk hkk
  rw [show (l ++ [x]).length = l.length + 1 by simp] at hk
  rcases hn k hk with e | e
  · exact h.ak k e hkk
  · have a := h.bl.lt k hkk
    have b := h.bl.bel.size
    omega

end Go.Proofs.Ytbjgigdkbjabaaa
