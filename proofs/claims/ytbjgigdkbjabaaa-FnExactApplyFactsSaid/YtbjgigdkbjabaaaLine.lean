/- Line: the value of a line of moves: both functions. Each contract holds for every argument, under the premises that it states. -/
import Derived.Test.YtbjgigdkbjabaaaGreed
import Derived.Test.YtbjgigdkbjabaaaStored
namespace Go.Proofs.Ytbjgigdkbjabaaa
set_option linter.unusedSimpArgs false
set_option linter.unusedVariables false
set_option linter.unnecessarySimpa false
open Go.RowKit Go.ChangeShapes Go.WideShapes Go.ChangeAt Go.Joins

def lineGo (r : R) (pl : Int) : P → Int → List Int → Int × Int
  | _, s, [] => (s, 0)
  | q, s, m :: ms => if (makeP r q m).code = 0 then lineGo r pl ⟨(makeP r q m).pits, (makeP r q m).stores, (makeP r q m).player⟩ (if q.player = pl then s + (makeP r q m).gain else s - (makeP r q m).gain) ms else (0, (makeP r q m).code)
def lineP (r : R) (p : P) (ms : List Int) : Int × Int := if p.ok r = true then (if ms.length > 8 then (0, 2) else lineGo r p.player p 0 ms) else (0, 1)
theorem makeP_gain {r : R} {q : P} {m : Int} (h : (makeP r q m).code = 0) : 0 ≤ (makeP r q m).gain ∧ (makeP r q m).gain ≤ 2000 ∧ (makeP r q m).pits.length ≤ 16777216 ∧ (makeP r q m).stores.length ≤ 16777216 := by
  have hd : (doneP r q m).code = 0 := by rw [← makeP_code]; exact h
  have h1 := doneP_gain hd q.player.toNat
  obtain ⟨f1, f2, f3, f4, f5⟩ := doneP_facts hd
  have h3 := f3 q.player.toNat
  have h4 := f4 q.player.toNat
  rw [makeP_ok hd]
  simp only
  omega
/-- a row that doesn't lie in block B -/
def RowN (B : Nat) (w : World) (a : Option Addr) (xs : List Int) : Prop := Ints w a xs ∧ ∀ b o t, a = some ⟨b, o, t⟩ → ¬ b = B
theorem RowN.below {B C : Nat} {w w' : World} {a : Option Addr} {xs : List Int} (h : RowN B w a xs) (hb : Below C w w') (hC : w.heap.size ≤ C) : RowN B w' a xs := ⟨h.1.below hb hC, h.2⟩
theorem RowN.set {B : Nat} {w : World} {a : Option Addr} {xs : List Int} (h : RowN B w a xs) (i : Nat) (v : Value) : RowN B (w.setCell ⟨B, i, none⟩ v) a xs := by
  refine ⟨fun j u hu => ?_, h.2⟩
  obtain ⟨b, o, ha, hc⟩ := h.1 j u hu
  refine ⟨b, o, ha, ?_⟩
  rw [World.cell?_setCell_other]
  · exact hc
  · intro e; cases e; exact h.2 _ _ _ ha rfl
theorem own_rowN {B base : Nat} {w : World} {c : Nat} {a : Option Addr} {xs : List Int} (h : OwnI w base a c xs) (hb : B < base) : RowN B w a xs := by
  refine ⟨own_row h, fun b o t ha e => ?_⟩
  subst ha
  have := (h.lt b rfl).1
  omega
theorem arg_rowN {B : Nat} {w : World} {a : Option Addr} {xs : List Int} (h : Ints w a xs) (hx : 0 < xs.length) (hB : w.heap.size ≤ B) : RowN B w a xs := by
  obtain ⟨b, o, rfl, hb, _⟩ := Ints.open h hx
  refine ⟨h, fun b' o' t ha e => ?_⟩
  cases ha
  omega
/-- the position at hand: its box, block B, and its rows elsewhere -/
structure LvP (w : World) (B : Nat) (q : P) (qa : Option Addr) (qc : Nat) (ta : Option Addr) (tc : Nat) : Prop where
  c0 : w.cell? ⟨B, 0, none⟩ = some (.slice qa q.pits.length qc)
  c1 : w.cell? ⟨B, 1, none⟩ = some (.slice ta q.stores.length tc)
  c2 : w.cell? ⟨B, 2, none⟩ = some (.int .i64 q.player)
  fz : ∀ o, w.frozen? ⟨B, o, none⟩ = false
  p : RowN B w qa q.pits
  s : RowN B w ta q.stores
  m1 : q.pits.length ≤ 16777216
  m2 : q.stores.length ≤ 16777216
  hc : q.pits.length ≤ qc
  hcm : qc ≤ maxLen
theorem LvP.below {w w' : World} {B : Nat} {q : P} {qa ta : Option Addr} {qc tc : Nat} (h : LvP w B q qa qc ta tc) (hb : Below w.heap.size w w') : LvP w' B q qa qc ta tc := by
  have hB : B < w.heap.size := World.block_lt_of_cell? w _ h.c0
  exact ⟨(hb.cell (show (Addr.mk B 0 none).block < _ from hB)).trans h.c0, (hb.cell (show (Addr.mk B 1 none).block < _ from hB)).trans h.c1, (hb.cell (show (Addr.mk B 2 none).block < _ from hB)).trans h.c2, fun o => (hb.frozen (show (Addr.mk B o none).block < _ from hB)).trans (h.fz o), h.p.below hb (Nat.le_refl _), h.s.below hb (Nat.le_refl _), h.m1, h.m2, h.hc, h.hcm⟩
theorem LvP.store {w : World} {B base : Nat} {q : P} {qa ta : Option Addr} {qc tc : Nat} (h : LvP w B q qa qc ta tc) {y : P} {ua va : Option Addr} {uc vc : Nat} (ho : POwn w base y ua uc va vc) (hb : B < base) (m1 : y.pits.length ≤ 16777216) (m2 : y.stores.length ≤ 16777216) :
    LvP (((w.setCell ⟨B, 0, none⟩ (.slice ua y.pits.length uc)).setCell ⟨B, 1, none⟩ (.slice va y.stores.length vc)).setCell ⟨B, 2, none⟩ (.int .i64 y.player)) B y ua uc va vc := by
  have hcp := own_caps ho.pits
  refine ⟨?_, ?_, ?_, fun o => ?_, (((own_rowN ho.pits hb).set _ _).set _ _).set _ _, (((own_rowN ho.stores hb).set _ _).set _ _).set _ _, m1, m2, hcp.1, hcp.2⟩
  · rw [cell_off (by omega), cell_off (by omega)]; exact World.cell?_setCell_same _ _ _ h.c0
  · rw [cell_off (by omega)]; refine World.cell?_setCell_same _ _ (u := .slice ta q.stores.length tc) _ ?_; rw [cell_off (by omega)]; exact h.c1
  · refine World.cell?_setCell_same _ _ (u := .int .i64 q.player) _ ?_; rw [cell_off (by omega), cell_off (by omega)]; exact h.c2
  · simp [h.fz]
theorem BoxP.set {w : World} {g B : Nat} {cs : List Value} (h : BoxP g cs w) (hn : ¬ g = B) (i : Nat) (v : Value) : BoxP g cs (w.setCell ⟨B, i, none⟩ v) := fun j u hu => (cell_other hn).trans (h j u hu)
/-- a round over the moves -/
structure LvSt (w wr : World) (r : R) (pl : Int) (ms : List Int) (tgt : Int × Int) (k : Nat) (s : Int) (q : P) (qa : Option Addr) (qc : Nat) (ta : Option Addr) (tc : Nat) : Prop where
  kl : k ≤ ms.length
  go : lineGo r pl q s (ms.drop k) = tgt
  s0 : -2000 * (k : Int) ≤ s
  s1 : s ≤ 2000 * (k : Int)
  lv : LvP wr (w.heap.size + 1) q qa qc ta tc
  rx : BoxP w.heap.size r.cells.toList wr
  below : Below w.heap.size w wr


/-! ### SrP: searches in plain terms: a move leads to a valid position; the size and the value of a search. Each fact holds under the premises that it states. -/
/-- the position that a result leads to -/
def nxt (x : Mk) : P := ⟨x.pits, x.stores, x.player⟩
theorem gainP_set {P : List Int} {k : Int} (hk : 0 ≤ k) : ∀ (l : List Int), k ∉ l → (∀ j ∈ l, 0 ≤ j) → gainP (P.set k.toNat 0) l = gainP P l
  | [], _, _ => rfl
  | j :: l, h1, h2 => by
    have ih := gainP_set (P := P) hk l (fun h => h1 (by simp [h])) (fun i hi => h2 i (by simp [hi]))
    rw [gainP_cons, gainP_cons, ih]
    have hj := h2 j (by simp)
    have hne : ¬ k.toNat = j.toNat := fun e => h1 (by have : k = j := by omega
                                                      simp [this])
    simp [List.getD_eq_getElem?_getD, List.getElem?_set, hne]
theorem zeroP_sum : ∀ (l P : List Int), PitsOk P.length l → (zeroP P l).sum = P.sum - gainP P l
  | [], P, _ => by simp [zeroP, gainP]
  | k :: l, P, ⟨h1, h2⟩ => by
    obtain ⟨hn, hd⟩ := List.nodup_cons.1 h2
    have hk := h1 k (by simp)
    have ih := zeroP_sum l (P.set k.toNat 0) ⟨fun j hj => by have := h1 j (by simp [hj]); simpa using this, hd⟩
    simp only [zeroP]
    have hkl : k.toNat < P.length := by omega
    rw [ih, gainP_set hk.1 l hn (fun j hj => (h1 j (by simp [hj])).1), sum_set P k.toNat hkl, gainP_cons]
    have : P.getD k.toNat 0 = P[k.toNat] := by simp [List.getD_eq_getElem?_getD, hkl]
    rw [this]
    omega
theorem zeroP_nn2 : ∀ (l P : List Int), nn P → nn (zeroP P l)
  | [], P, h => h
  | k :: l, P, h => zeroP_nn2 l _ (nn_set h _ (Int.le_refl 0))
theorem takeP_brd {r : R} (hb : r.Bd) {P S : List Int} {t : Int} (h : Brd r P S t) (ht : t ≤ 96) {pn : Nat} (hp : pn ≤ 1) {last : Int} (ho : PlaceOk r last) : Brd r (takeP r pn P S last).1 (takeP r pn P S last).2 t := by
  obtain ⟨g0, g1⟩ := gainP_bd (h.bp ht) (by omega) (capP r pn P last)
  have hc := (capP_ok hb pn P last h.lp ho).1
  have hl : pn < S.length := by have := h.ls; omega
  have hS : S.getD pn 0 = S[pn] := by simp [List.getD_eq_getElem?_getD, hl]
  have hs0 := h.ns _ (List.getElem_mem hl)
  unfold takeP
  refine ⟨by rw [zeroP_length]; exact h.lp, by simpa using h.ls, zeroP_nn2 _ _ h.np, nn_set h.ns _ (by simp only [Int.toNat_natCast]; rw [hS]; omega), ?_⟩
  simp only [Int.toNat_natCast]
  rw [zeroP_sum _ _ hc, sum_set S pn hl, hS]
  have := h.sm
  omega
theorem doneP_brd {r : R} {p : P} {move : Int} (h : (doneP r p move).code = 0) : p.ok r = true ∧ ∃ t, Brd r (doneP r p move).pits (doneP r p move).stores t ∧ t ≤ 96 := by
  obtain ⟨hc0, L, n, ho⟩ := doneP_zero h
  obtain ⟨hok, hbd, ⟨pn, hpn, hpn1⟩, t, hB, ht1, hpl⟩ := sowP_brd hc0 ho
  have hd : doneP r p move = ⟨0, (takeP r p.player L.pits L.stores L.last).1, (takeP r p.player L.pits L.stores L.last).2, L.last, n⟩ := by
    have h1 := h
    rw [doneP_ok hc0 ho] at h1 ⊢
    unfold doneL at h1 ⊢
    by_cases a : r.slam = 1 ∧ slamP r p.player L.pits L.last = true
    · rw [if_pos a] at h1; simp [Done.bad] at h1
    · rw [if_neg a] at h1 ⊢
      split at h1
      · simp [Done.bad] at h1
      · rename_i b; rw [if_neg b]
  refine ⟨hok, t, ?_, ht1⟩
  rw [hd, hpn]
  exact takeP_brd hbd hB ht1 hpn1 hpl
theorem makeP_valid {r : R} {p : P} {m : Int} (h : (makeP r p m).code = 0) : (nxt (makeP r p m)).ok r = true := by
  have hd : (doneP r p m).code = 0 := by rw [← makeP_code]; exact h
  obtain ⟨hok, t, hB, ht⟩ := doneP_brd hd
  have hbs := hB.bs ht
  have hok' := hok
  simp only [P.ok, Bool.and_eq_true, decide_eq_true_eq] at hok'
  obtain ⟨⟨⟨⟨⟨⟨h1, h2⟩, h3⟩, h4⟩, h5⟩, h6⟩, h7⟩ := hok'
  have hpl := inB_iff.1 h4
  rw [makeP_ok hd]
  simp only [nxt, P.ok, Bool.and_eq_true, decide_eq_true_eq]
  refine ⟨⟨⟨⟨⟨⟨h1, hB.lp⟩, hB.ls⟩, inB_iff.2 ?_⟩, hB.allIn ht⟩, List.all_eq_true.2 fun n hn => inB_iff.2 (hbs n hn)⟩, by have := hB.sm; omega⟩
  split <;> omega
theorem allP_valid {r : R} {p : P} {x : Mk} (h : x ∈ allP r p) : (nxt x).ok r = true := by
  obtain ⟨m, hx, hc, hm⟩ := allP_of h
  rw [hx]
  exact makeP_valid hc
theorem P.ok_lens {p : P} {r : R} (h : p.ok r = true) : p.pits.length ≤ 16 ∧ p.stores.length ≤ 16 := by
  obtain ⟨hb, _, t, hB, _⟩ := P.ok_parts h
  have := hb.hi; have := hB.lp; have := hB.ls
  omega

/-! ### the size of a search -/
def szGo (f : P → Nat) : List Mk → Nat
  | [] => 0
  | x :: l => f (nxt x) + szGo f l
/-- how many positions a search asks -/
def sizeT (r : R) : Nat → P → Nat
  | 0, _ => 1
  | d + 1, p => 1 + szGo (sizeT r d) (allP r p)
def suGo (f : P → Int) : List Mk → Int → Int
  | [], s => s
  | x :: l, s => if s + f (nxt x) > 3000 then s + f (nxt x) else suGo f l (s + f (nxt x))
/-- the same, given up when it is too many -/
def sizeU (r : R) : Nat → P → Int
  | 0, _ => 1
  | d + 1, p => suGo (sizeU r d) (allP r p) 1
theorem suGo_bd (f : P → Int) (B : Int) (hB : 0 ≤ B) : ∀ (l : List Mk) (s : Int), (∀ x ∈ l, 1 ≤ f (nxt x) ∧ f (nxt x) ≤ B) → 1 ≤ s → s ≤ 3000 → 1 ≤ suGo f l s ∧ suGo f l s ≤ 3000 + B
  | [], s, _, h1, h2 => by simp only [suGo]; omega
  | x :: l, s, h, h1, h2 => by
    have hx := h x (by simp)
    simp only [suGo]
    split
    · omega
    · exact suGo_bd f B hB l _ (fun y hy => h y (by simp [hy])) (by omega) (by omega)
theorem sizeU_bd (r : R) : ∀ (d : Nat) (p : P), 1 ≤ sizeU r d p ∧ sizeU r d p ≤ 3000 * (d : Int) + 1
  | 0, p => by simp [sizeU]
  | d + 1, p => by
    have h := suGo_bd (sizeU r d) (3000 * (d : Int) + 1) (by omega) (allP r p) 1 (fun x _ => sizeU_bd r d (nxt x)) (by omega) (by omega)
    simp only [sizeU]
    omega
theorem suGo_eq (f : P → Int) (g : P → Nat) (hf : ∀ q, (g q ≤ 3000 → f q = g q) ∧ (3000 < g q → 3000 < f q)) : ∀ (l : List Mk) (s : Nat), s ≤ 3000 → (s + szGo g l ≤ 3000 → suGo f l s = ((s + szGo g l : Nat) : Int)) ∧ (3000 < s + szGo g l → 3000 < suGo f l s)
  | [], s, h => by simp only [suGo, szGo]; omega
  | x :: l, s, h => by
    obtain ⟨f1, f2⟩ := hf (nxt x)
    simp only [suGo, szGo]
    by_cases hg : g (nxt x) ≤ 3000
    · have f1 := f1 hg
      rw [f1]
      by_cases hs : (s : Int) + (g (nxt x) : Int) > 3000
      · rw [if_pos hs]; omega
      · rw [if_neg hs]
        have ih := suGo_eq f g hf l (s + g (nxt x)) (by omega)
        rw [← Int.natCast_add]
        refine ⟨fun h => ?_, fun h => ih.2 (by omega)⟩
        rw [ih.1 (by omega)]
        congr 1
        omega
    · have f2 := f2 (by omega)
      rw [if_pos (by omega)]
      omega
theorem sizeU_eq (r : R) : ∀ (d : Nat) (p : P), (sizeT r d p ≤ 3000 → sizeU r d p = sizeT r d p) ∧ (3000 < sizeT r d p → 3000 < sizeU r d p)
  | 0, p => by simp [sizeT, sizeU]
  | d + 1, p => by
    have h := suGo_eq (sizeU r d) (sizeT r d) (fun q => sizeU_eq r d q) (allP r p) 1 (by omega)
    simp only [sizeT, sizeU]
    exact h

/-! ### the value of a search -/
/-- what a game that ends counts -/
def endP (r : R) (p : P) : Int := sideP r p.pits p.player - sideP r p.pits (1 - p.player)
def moveV (x : Mk) (v : Int) : Int := if x.again = true then x.gain + v else x.gain - v
def bGo (f : P → Int) : List Mk → Nat → Int → Int
  | [], _, b => b
  | x :: l, i, b => bGo f l (i + 1) (if i = 0 ∨ moveV x (f (nxt x)) > b then moveV x (f (nxt x)) else b)
def valueP (r : R) : Nat → P → Int
  | 0, p => if allP r p = [] then endP r p else 0
  | d + 1, p => if allP r p = [] then endP r p else bGo (valueP r d) (allP r p) 0 0
theorem sideP_bd {r : R} {p : P} (h : p.ok r = true) (pl : Int) : 0 ≤ sideP r p.pits pl ∧ sideP r p.pits pl ≤ 1536 := by
  have hok := h
  simp only [P.ok, Bool.and_eq_true, decide_eq_true_eq] at hok
  obtain ⟨⟨⟨⟨⟨⟨h1, h2⟩, h3⟩, h4⟩, h5⟩, h6⟩, h7⟩ := hok
  have hb := allIn_bd (sub_sum h5 (pl * r.pits).toNat r.pits.toNat)
  have hl : ((p.pits.drop (pl * r.pits).toNat).take r.pits.toNat).length ≤ 16 := by
    have := (P.ok_lens h).1
    simp
    omega
  unfold sideP
  omega
theorem endP_bd {r : R} {p : P} (h : p.ok r = true) : -2000 ≤ endP r p ∧ endP r p ≤ 2000 := by
  have h1 := sideP_bd h p.player
  have h2 := sideP_bd h (1 - p.player)
  unfold endP
  omega
theorem bGo_bd (f : P → Int) (B : Int) : ∀ (l : List Mk) (i : Nat) (b : Int), (∀ x ∈ l, -B ≤ moveV x (f (nxt x)) ∧ moveV x (f (nxt x)) ≤ B) → -B ≤ b → b ≤ B → -B ≤ bGo f l i b ∧ bGo f l i b ≤ B
  | [], i, b, _, h1, h2 => by simp only [bGo]; omega
  | x :: l, i, b, h, h1, h2 => by
    have hx := h x (by simp)
    simp only [bGo]
    split
    · exact bGo_bd f B l _ _ (fun y hy => h y (by simp [hy])) (by omega) (by omega)
    · exact bGo_bd f B l _ _ (fun y hy => h y (by simp [hy])) (by omega) (by omega)
theorem moveV_bd {x : Mk} {v B : Int} (hx : 0 ≤ x.gain ∧ x.gain ≤ 2000) (h1 : -B ≤ v) (h2 : v ≤ B) : -(2000 + B) ≤ moveV x v ∧ moveV x v ≤ 2000 + B := by
  unfold moveV
  split <;> omega
theorem valueP_bd (r : R) : ∀ (d : Nat) (p : P), p.ok r = true → -(2000 * ((d : Int) + 1)) ≤ valueP r d p ∧ valueP r d p ≤ 2000 * ((d : Int) + 1)
  | 0, p, h => by
    have := endP_bd h
    simp only [valueP]
    split <;> omega
  | d + 1, p, h => by
    have := endP_bd h
    simp only [valueP]
    split
    · omega
    · refine bGo_bd _ _ _ _ _ (fun x hx => ?_) (by omega) (by omega)
      have h1 := valueP_bd r d (nxt x) (allP_valid hx)
      have h2 := allP_pos hx
      have h3 := moveV_bd (x := x) (v := valueP r d (nxt x)) (B := 2000 * ((d : Int) + 1)) ⟨h2.1, h2.2.2⟩ (by omega) (by omega)
      omega

/-! ### the reference's search: value and size at once, given up when the size is too great -/
def voGo (f : P → Int → Int × Int) : List Mk → Nat → Int → Int → Int × Int
  | [], _, b, s => (b, s)
  | x :: l, i, b, s => voGo f l (i + 1) (if i = 0 ∨ moveV x (f (nxt x) s).1 > b then moveV x (f (nxt x) s).1 else b) (f (nxt x) s).2
def vS (r : R) : Nat → P → Int → Int × Int
  | 0, p, s => if s + 1 > 3000 then (0, s + 1) else if allP r p = [] then (endP r p, s + 1) else (0, s + 1)
  | d + 1, p, s => if s + 1 > 3000 then (0, s + 1) else if allP r p = [] then (endP r p, s + 1) else voGo (vS r d) (allP r p) 0 0 (s + 1)
theorem voGo_eq (f : P → Int → Int × Int) (v : P → Int) (g : P → Nat) (hf : ∀ q s, 0 ≤ s → (s + (g q : Int) ≤ 3000 → f q s = (v q, s + (g q : Int))) ∧ (3000 < s + (g q : Int) → 3000 < (f q s).2) ∧ s < (f q s).2) : ∀ (l : List Mk) (i : Nat) (b s : Int), 0 ≤ s →
    (s + (szGo g l : Int) ≤ 3000 → voGo f l i b s = (bGo v l i b, s + (szGo g l : Int))) ∧ (3000 < s + (szGo g l : Int) → 3000 < (voGo f l i b s).2) ∧ s ≤ (voGo f l i b s).2
  | [], i, b, s, hs => by
    simp only [voGo, szGo, bGo]
    refine ⟨fun _ => by simp, fun h => by simpa using h, by omega⟩
  | x :: l, i, b, s, hs => by
    obtain ⟨f1, f2, f3⟩ := hf (nxt x) s hs
    simp only [voGo, szGo, bGo, Int.natCast_add]
    obtain ⟨y, hy⟩ : ∃ y, y = f (nxt x) s := ⟨_, rfl⟩
    rw [← hy] at f1 f2 f3 ⊢
    obtain ⟨b', hb'⟩ : ∃ b', b' = (if i = 0 ∨ moveV x y.1 > b then moveV x y.1 else b) := ⟨_, rfl⟩
    rw [← hb']
    obtain ⟨h1, h2, h3⟩ := voGo_eq f v g hf l (i + 1) b' y.2 (by omega)
    by_cases hg : s + (g (nxt x) : Int) ≤ 3000
    · have f1 := f1 hg
      refine ⟨fun h => ?_, fun h => h2 (by rw [f1]; simp only; omega), by omega⟩
      rw [h1 (by rw [f1]; simp only; omega), hb', f1]
      simp only [Prod.mk.injEq, true_and]
      omega
    · have f2 := f2 (by omega)
      refine ⟨fun h => by omega, fun h => by omega, by omega⟩
theorem vS_eq (r : R) : ∀ (d : Nat) (p : P) (s : Int), 0 ≤ s → (s + (sizeT r d p : Int) ≤ 3000 → vS r d p s = (valueP r d p, s + (sizeT r d p : Int))) ∧ (3000 < s + (sizeT r d p : Int) → 3000 < (vS r d p s).2) ∧ s < (vS r d p s).2
  | 0, p, s, hs => by
    simp only [vS, sizeT, valueP]
    by_cases h : s + 1 > 3000
    · rw [if_pos h]
      exact ⟨fun h => by omega, fun h => by simp only; omega, by simp only; omega⟩
    · rw [if_neg h]
      split
      · exact ⟨fun h => rfl, fun h => by omega, by simp only; omega⟩
      · exact ⟨fun h => rfl, fun h => by omega, by simp only; omega⟩
  | d + 1, p, s, hs => by
    have hv := voGo_eq (vS r d) (valueP r d) (sizeT r d) (fun q s hs => vS_eq r d q s hs) (allP r p) 0 0 (s + 1) (by omega)
    simp only [vS, sizeT, valueP]
    by_cases h : s + 1 > 3000
    · rw [if_pos h]
      exact ⟨fun h => by omega, fun h => by simp only; omega, by simp only; omega⟩
    · rw [if_neg h]
      by_cases he : allP r p = []
      · rw [if_pos he, if_pos he, he]
        exact ⟨fun h => rfl, fun h => by simp only [szGo] at h; omega, by simp only; omega⟩
      · rw [if_neg he, if_neg he]
        obtain ⟨h1, h2, h3⟩ := hv
        refine ⟨fun h => ?_, fun h => h2 (by omega), by omega⟩
        rw [h1 (by omega)]
        simp only [Prod.mk.injEq, true_and]
        omega
def Bz : Nat → Int
  | 0 => 1
  | d + 1 => 1 + 8 * Bz d
theorem Bz_pos : ∀ d, 1 ≤ Bz d
  | 0 => by simp [Bz]
  | d + 1 => by have := Bz_pos d; simp only [Bz]; omega
theorem Bz_le : ∀ d, d ≤ 8 → Bz d ≤ 20000000 := by decide
theorem voGo_bd (f : P → Int → Int × Int) (B V : Int) : ∀ (l : List Mk) (i : Nat) (b s : Int), 0 ≤ s → -V ≤ b → b ≤ V → (∀ x ∈ l, ∀ s, 0 ≤ s → s ≤ (f (nxt x) s).2 ∧ (f (nxt x) s).2 ≤ s + B ∧ -V ≤ moveV x (f (nxt x) s).1 ∧ moveV x (f (nxt x) s).1 ≤ V) →
    s ≤ (voGo f l i b s).2 ∧ (voGo f l i b s).2 ≤ s + B * (l.length : Int) ∧ -V ≤ (voGo f l i b s).1 ∧ (voGo f l i b s).1 ≤ V
  | [], i, b, s, hs, h1, h2, hf => by simp only [voGo, List.length_nil]; omega
  | x :: l, i, b, s, hs, h1, h2, hf => by
    obtain ⟨f1, f2, f3, f4⟩ := hf x (by simp) s hs
    simp only [voGo]
    obtain ⟨y, hy⟩ : ∃ y, y = f (nxt x) s := ⟨_, rfl⟩
    rw [← hy] at f1 f2 f3 f4 ⊢
    obtain ⟨b', hb'⟩ : ∃ b', b' = (if i = 0 ∨ moveV x y.1 > b then moveV x y.1 else b) := ⟨_, rfl⟩
    rw [← hb']
    have hb2 : -V ≤ b' ∧ b' ≤ V := by rw [hb']; split <;> omega
    obtain ⟨g1, g2, g3, g4⟩ := voGo_bd f B V l (i + 1) b' y.2 (by omega) hb2.1 hb2.2 (fun z hz => hf z (by simp [hz]))
    have e : B * ((x :: l).length : Int) = B * (l.length : Int) + B := by
      simp only [List.length_cons, Int.natCast_add, Int.mul_add]
      omega
    rw [e]
    omega
theorem vS_bd (r : R) : ∀ (d : Nat) (p : P) (s : Int), p.ok r = true → 0 ≤ s → s ≤ (vS r d p s).2 ∧ (vS r d p s).2 ≤ s + Bz d ∧ -(2000 * ((d : Int) + 1)) ≤ (vS r d p s).1 ∧ (vS r d p s).1 ≤ 2000 * ((d : Int) + 1)
  | 0, p, s, hok, hs => by
    have := endP_bd hok
    simp only [vS, Bz]
    split
    · simp only; omega
    · split
      · simp only; omega
      · simp only; omega
  | d + 1, p, s, hok, hs => by
    have := endP_bd hok
    have hz := Bz_pos d
    have hl := allP_len8 hok
    simp only [vS, Bz]
    split
    · simp only; omega
    · split
      · simp only; omega
      · have h := voGo_bd (vS r d) (Bz d) (2000 + 2000 * ((d : Int) + 1)) (allP r p) 0 0 (s + 1) (by omega) (by omega) (by omega) (fun x hx s hs => by
          obtain ⟨h1, h2, h3, h4⟩ := vS_bd r d (nxt x) s (allP_valid hx) hs
          have h5 := allP_pos hx
          have h6 := moveV_bd (x := x) (v := (vS r d (nxt x) s).1) (B := 2000 * ((d : Int) + 1)) ⟨h5.1, h5.2.2⟩ (by omega) (by omega)
          exact ⟨h1, h2, h6.1, h6.2⟩)
        have h8 : Bz d * ((allP r p).length : Int) ≤ Bz d * 8 := Int.mul_le_mul_of_nonneg_left (by omega) (by omega)
        omega

/-! ### what the functions of searches return -/
def srchC (r : R) (p : P) (d : Int) : Int := if p.ok r = true then (if 0 ≤ d ∧ d ≤ 8 then (if sizeT r d.toNat p > 3000 then 5 else 0) else 2) else 1
def ssizeP (r : R) (p : P) (d : Int) : Int × Int := if srchC r p d = 0 then (sizeT r d.toNat p, 0) else (0, srchC r p d)
def svalP (r : R) (p : P) (d : Int) : Int × Int := if srchC r p d = 0 then (valueP r d.toNat p, 0) else (0, srchC r p d)
def saskP (r : R) (p : P) (d : Int) : Int × Int × Int := if srchC r p d = 0 then (valueP r d.toNat p, sizeT r d.toNat p, 0) else (0, 0, srchC r p d)
def swinP (r : R) (p : P) (d lo hi : Int) : Int × Int :=
  if p.ok r = true ∧ lo > hi then (0, 2) else if srchC r p d = 0 then (min (max (valueP r d.toNat p) lo) hi, 0) else (0, srchC r p d)

/-! ### SrW: memory of a search: its own block, and what stays where nothing but that block changes. Each fact holds under the premises that it states. -/
theorem Chg.cell {lo hi b o : Nat} {w w' : World} (h : Chg lo hi w w') {v : Value} (hv : w.cell? ⟨b, o, none⟩ = some v) (hn : b < lo ∨ hi ≤ b) : w'.cell? ⟨b, o, none⟩ = some v :=
  cell_stab hv (h.block b (World.block_lt_of_cell? w _ hv) hn)
theorem Chg.ints {S : Nat} {w w' : World} {a : Option Addr} {xs : List Int} (h : Chg S (S + 1) w w') (hx : RowN S w a xs) : RowN S w' a xs := by
  refine ⟨fun j u hu => ?_, hx.2⟩
  obtain ⟨b, o, ha, hc⟩ := hx.1 j u hu
  have := hx.2 _ _ _ ha
  exact ⟨b, o, ha, h.cell hc (by omega)⟩
theorem Chg.patAt {S : Nat} {w w' : World} {b o pc sc : Nat} {p : P} {pa sa : Option Addr} (h : Chg S (S + 1) w w') (hp : P.At w b o p pa pc sa sc) (hb : ¬ b = S) : P.At w' b o p pa pc sa sc :=
  ⟨h.cell hp.c0 (by omega), h.cell hp.c1 (by omega), h.cell hp.c2 (by omega)⟩
theorem Chg.ratAt {S : Nat} {w w' : World} {b o : Nat} {r : R} (h : Chg S (S + 1) w w') (hp : R.At w b o r) (hb : ¬ b = S) : R.At w' b o r :=
  ⟨h.cell hp.c0 (by omega), h.cell hp.c1 (by omega), h.cell hp.c2 (by omega), h.cell hp.c3 (by omega), h.cell hp.c4 (by omega), h.cell hp.c5 (by omega), h.cell hp.c6 (by omega), h.cell hp.c7 (by omega), h.cell hp.c8 (by omega)⟩
theorem Chg.boxP {S g : Nat} {w w' : World} {cs : List Value} (h : Chg S (S + 1) w w') (hp : BoxP g cs w) (hb : ¬ g = S) : BoxP g cs w' := fun j v hv => h.cell (hp j v hv) (by omega)
theorem Chg.ownI {S base c : Nat} {w w' : World} {a : Option Addr} {e : TypeId} {size n : Nat} {v : Value} {vs : List Value} (h : Chg S (S + 1) w w') (ho : w.ownsRow base e size v n vs) (hb : S < base) : w'.ownsRow base e size v n vs :=
  own_stab (hi := w.heap.size) (Nat.le_refl _) ho (fun k hk => (ho.lt k hk).2) (fun k k1 k2 => h.block k k2 (by omega))
theorem Chg.mksOwn {S base c : Nat} {w w' : World} {ad : Option Addr} {l : List (Mk × MA)} (h : Chg S (S + 1) w w') (ho : MksOwn w base ad c l) (hb : S < base) : MksOwn w' base ad c l :=
  ⟨h.ownI (c := 0) (a := none) ho.row hb, fun x hx => ⟨⟨h.ownI (c := 0) (a := none) (ho.items x hx).1.pits hb, h.ownI (c := 0) (a := none) (ho.items x hx).1.stores hb, (ho.items x hx).1.apart⟩, (ho.items x hx).2⟩, ho.sep⟩
theorem Chg.grow {lo hi : Nat} {a b c : World} (h : Chg lo hi a b) (k : Below b.heap.size b c) : Chg lo hi a c := h.trans (Chg.ofBelow k)
/-- the block of a search: where its rules lie, and how many positions it has asked -/
structure SrB (w : World) (S rb ro : Nat) (s : Int) : Prop where
  c0 : w.cell? ⟨S, 0, none⟩ = some (.pointer (some ⟨rb, ro, none⟩))
  c1 : w.cell? ⟨S, 1, none⟩ = some (.int .i64 s)
  fz : ∀ o, w.frozen? ⟨S, o, none⟩ = false
theorem SrB.below {w w' : World} {S rb ro : Nat} {s : Int} (h : SrB w S rb ro s) (hb : Below w.heap.size w w') : SrB w' S rb ro s := by
  have hB : S < w.heap.size := World.block_lt_of_cell? w _ h.c0
  exact ⟨(hb.cell (show (Addr.mk S 0 none).block < _ from hB)).trans h.c0, (hb.cell (show (Addr.mk S 1 none).block < _ from hB)).trans h.c1, fun o => (hb.frozen (show (Addr.mk S o none).block < _ from hB)).trans (h.fz o)⟩
theorem SrB.set {w : World} {S rb ro : Nat} {s : Int} (h : SrB w S rb ro s) (n : Int) : SrB (w.setCell ⟨S, 1, none⟩ (.int .i64 n)) S rb ro n := by
  refine ⟨?_, World.cell?_setCell_same _ _ _ h.c1, fun o => by simp [h.fz]⟩
  rw [cell_off (by omega)]
  exact h.c0
theorem rowN_prow {S : Nat} {w : World} {p : P} {pa sa : Option Addr} (h1 : RowN S w pa p.pits) (h2 : RowN S w sa p.stores) : PRow w p pa sa := ⟨h1.1, h2.1⟩
theorem mks_item {w : World} {base c : Nat} {ad : Option Addr} {l : List (Mk × MA)} (h : MksOwn w base ad c l) {S : Nat} (hS : S < base) {x : Mk × MA} (hx : x ∈ l) : RowN S w x.2.pa x.1.pits ∧ RowN S w x.2.sa x.1.stores :=
  ⟨own_rowN (h.items x hx).1.pits hS, own_rowN (h.items x hx).1.stores hS⟩

end Go.Proofs.Ytbjgigdkbjabaaa
