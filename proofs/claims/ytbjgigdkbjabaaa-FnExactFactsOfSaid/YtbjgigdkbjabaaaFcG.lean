/- FcG: the facts of a move in plain terms, and that both ways of telling them agree. Plain facts, under the premises that each names. -/
import Derived.Test.YtbjgigdkbjabaaaFlFact
import Derived.Test.YtbjgigdkbjabaaaMf
namespace Go.Proofs.Ytbjgigdkbjabaaa
set_option linter.unusedSimpArgs false
set_option linter.unusedVariables false
set_option linter.unnecessarySimpa false
open Go.RowKit Go.ChangeShapes Go.WideShapes Go.ChangeAt Go.Joins

/-- a seed that is sown into a place, in the facts of a lap -/
def sowF (q : Int) : List Fc → List Fc
  | [] => [⟨2, q, 1⟩]
  | f :: l => if f.place = q then ⟨f.kind, f.place, f.count + 1⟩ :: l else f :: sowF q l
def sowsF (T : List Int) : List Fc := T.foldl (fun l q => sowF q l) []
theorem sowsF_snoc (T : List Int) (q : Int) : sowsF (T ++ [q]) = sowF q (sowsF T) := by simp [sowsF]
def lapF (fr n : Int) (X : List Int) : List Fc := ⟨1, fr, n⟩ :: sowsF X
def lapsGo (r : R) (pl : Int) : Nat → Lap → List Fc
  | 0, _ => []
  | k + 1, L => if moreP r L = true then
      lapF L.last (L.pits.getD L.last.toNat 0) ((lapP r pl L.last L.pits L.stores L.path).path.drop L.path.length) ++ lapsGo r pl k (lapP r pl L.last L.pits L.stores L.path)
    else []
def lapsF (r : R) (pl fr : Int) (P S : List Int) : List Fc :=
  lapF fr (P.getD fr.toNat 0) (lapP r pl fr P S []).path ++ lapsGo r pl 99 (lapP r pl fr P S [])

/-- how many seeds the facts of a lap tell -/
theorem sowF_len (q : Int) : ∀ l : List Fc, (sowF q l).length ≤ l.length + 1 ∧ l.length ≤ (sowF q l).length
  | [] => by simp [sowF]
  | f :: l => by
    have := sowF_len q l
    unfold sowF
    split
    · simp
    · simp; omega
theorem sowF_bd {q m : Int} (hq : -1 ≤ q ∧ q ≤ 1000) (h0 : 1 ≤ m) : ∀ {l : List Fc}, (∀ f ∈ l, f.kind = 2 ∧ (-1 ≤ f.place ∧ f.place ≤ 1000) ∧ 1 ≤ f.count ∧ f.count ≤ m) → ∀ f ∈ sowF q l, f.kind = 2 ∧ (-1 ≤ f.place ∧ f.place ≤ 1000) ∧ 1 ≤ f.count ∧ f.count ≤ m + 1
  | [], _, f, hf => by
    simp [sowF] at hf
    subst hf
    exact ⟨rfl, hq, by dsimp only; omega, by dsimp only; omega⟩
  | g :: l, h, f, hf => by
    have hg := h g (List.mem_cons_self ..)
    have hl := sowF_bd hq h0 (l := l) (fun x hx => h x (List.mem_cons_of_mem _ hx))
    unfold sowF at hf
    split at hf
    · rcases List.mem_cons.1 hf with rfl | hf
      · exact ⟨hg.1, hg.2.1, by dsimp only; omega, by dsimp only; omega⟩
      · have := h f (List.mem_cons_of_mem _ hf)
        exact ⟨this.1, this.2.1, this.2.2.1, by omega⟩
    · rcases List.mem_cons.1 hf with rfl | hf
      · exact ⟨hg.1, hg.2.1, hg.2.2.1, by omega⟩
      · exact hl f hf
theorem sowsF_bdG : ∀ (T : List Int) (l : List Fc) (m : Int), 1 ≤ m → (∀ q ∈ T, -1 ≤ q ∧ q ≤ 1000) → (∀ f ∈ l, f.kind = 2 ∧ (-1 ≤ f.place ∧ f.place ≤ 1000) ∧ 1 ≤ f.count ∧ f.count ≤ m) →
    (∀ f ∈ T.foldl (fun l q => sowF q l) l, f.kind = 2 ∧ (-1 ≤ f.place ∧ f.place ≤ 1000) ∧ 1 ≤ f.count ∧ f.count ≤ m + T.length) ∧ (T.foldl (fun l q => sowF q l) l).length ≤ l.length + T.length
  | [], l, m, h0, h1, h2 => ⟨by simpa using h2, by simp⟩
  | q :: T, l, m, h0, h1, h2 => by
    obtain ⟨k1, k2⟩ := sowsF_bdG T (sowF q l) (m + 1) (by omega) (fun x hx => h1 x (List.mem_cons_of_mem _ hx)) (sowF_bd (h1 q (List.mem_cons_self ..)) h0 h2)
    refine ⟨fun f hf => ?_, ?_⟩
    · have := k1 f hf
      refine ⟨this.1, this.2.1, this.2.2.1, ?_⟩
      have := this.2.2.2
      simp
      omega
    · have := (sowF_len q l).1
      simp only [List.foldl_cons, List.length_cons]
      omega
theorem sowsF_bd {T : List Int} (h : ∀ q ∈ T, -1 ≤ q ∧ q ≤ 1000) : (∀ f ∈ sowsF T, f.kind = 2 ∧ (-1 ≤ f.place ∧ f.place ≤ 1000) ∧ 1 ≤ f.count ∧ f.count ≤ 1 + (T.length : Int)) ∧ (sowsF T).length ≤ T.length := by
  have := sowsF_bdG T [] 1 (by omega) h (fun f hf => by cases hf)
  exact ⟨this.1, by simpa [sowsF] using this.2⟩
/-- where the fact of a place stands -/
def atF (q : Int) (l : List Fc) : Nat := l.findIdx fun f => decide (f.place = q)
def inF (q : Int) (l : List Fc) : Bool := l.any fun f => decide (f.place = q)
theorem inF_at {q : Int} {l : List Fc} : inF q l = true ↔ atF q l < l.length := by
  unfold inF atF
  rw [List.findIdx_lt_length]
  simp
theorem sowF_in {q : Int} : ∀ {l : List Fc} (h : atF q l < l.length), sowF q l = l.set (atF q l) ⟨l[atF q l].kind, l[atF q l].place, l[atF q l].count + 1⟩
  | [], h => by simp at h
  | f :: l, h => by
    by_cases hf : f.place = q
    · have e : atF q (f :: l) = 0 := by simp [atF, List.findIdx_cons, hf]
      unfold sowF
      rw [if_pos hf]
      simp [e]
    · have e : atF q (f :: l) = atF q l + 1 := by simp [atF, List.findIdx_cons, hf]
      have h1 : atF q l < l.length := by rw [e] at h; simpa using h
      unfold sowF
      rw [if_neg hf, sowF_in h1]
      simp [e]
theorem sowF_out {q : Int} : ∀ {l : List Fc}, inF q l = false → sowF q l = l ++ [⟨2, q, 1⟩]
  | [], _ => rfl
  | f :: l, h => by
    simp [inF] at h
    unfold sowF
    rw [if_neg h.1, sowF_out (by simp [inF]; exact h.2)]
    rfl
/-- places stay where they are -/
theorem sowF_places {q : Int} : ∀ l : List Fc, (sowF q l).map Fc.place = if inF q l = true then l.map Fc.place else l.map Fc.place ++ [q]
  | [] => by simp [sowF, inF]
  | f :: l => by
    have ih := sowF_places (q := q) l
    unfold sowF
    by_cases hf : f.place = q
    · rw [if_pos hf, if_pos (by simp [inF, hf])]
      rfl
    · rw [if_neg hf, List.map_cons, ih]
      have e : inF q (f :: l) = inF q l := by simp [inF, hf]
      rw [e]
      split <;> simp
theorem inF_places {q : Int} (l : List Fc) : inF q l = (l.map Fc.place).any (fun x => decide (x = q)) := by
  induction l with
  | nil => rfl
  | cons f l ih => simp only [inF, List.any_cons, List.map_cons] at ih ⊢; rw [ih]
theorem atF_places {q : Int} (l : List Fc) : atF q l = (l.map Fc.place).findIdx (fun x => decide (x = q)) := by
  induction l with
  | nil => rfl
  | cons f l ih =>
    simp only [atF, List.findIdx_cons, List.map_cons] at ih ⊢
    rw [ih]
theorem inF_sow (q x : Int) (l : List Fc) : inF x (sowF q l) = (inF x l || decide (x = q)) := by
  rw [inF_places, sowF_places]
  by_cases h : inF q l = true
  · rw [if_pos h, ← inF_places]
    by_cases hx : x = q
    · subst hx; simp [h]
    · simp [hx]
  · rw [if_neg h, List.any_append, ← inF_places]
    have : decide (q = x) = decide (x = q) := decide_eq_decide.2 ⟨Eq.symm, Eq.symm⟩
    simp [this]
theorem atF_sow_old (q x : Int) (l : List Fc) (h : inF x l = true) : atF x (sowF q l) = atF x l := by
  rw [atF_places, sowF_places, atF_places]
  split
  · rfl
  · rw [List.findIdx_append, if_pos]
    have := inF_at.1 h
    rw [atF_places] at this
    simpa using this
theorem atF_sow_new (q : Int) (l : List Fc) (h : inF q l = false) : atF q (sowF q l) = l.length := by
  rw [atF_places, sowF_places, if_neg (by simp [h]), List.findIdx_append, if_neg]
  · simp
  · rw [← atF_places]
    intro h2
    have h3 : atF q l < l.length := by simpa using h2
    have := inF_at.2 h3
    rw [h] at this
    cases this

/-! ### the other way: along the path -/
structure FsS where
  pre : List Fc
  cur : List Fc
  pits : List Int
  fr : Int
  left : Int
def openF (s : FsS) : FsS := ⟨s.pre ++ s.cur ++ [⟨1, s.fr, s.pits.getD s.fr.toNat 0⟩], [], s.pits.set s.fr.toNat 0, s.fr, s.pits.getD s.fr.toNat 0⟩
def step1 (s : FsS) (q : Int) : FsS := ⟨s.pre, sowF q s.cur, if 0 ≤ q then bump s.pits q else s.pits, q, s.left - 1⟩
def stepS (s : FsS) (q : Int) : FsS := step1 (if s.left = 0 then openF s else s) q
def outF (s : FsS) : List Fc := s.pre ++ s.cur
theorem lapGo_run {r : R} (hb : r.Bd) (pl fr : Int) (hp : 0 ≤ pl ∧ pl ≤ 1) : ∀ (n : Nat) (place : Int) (P S T : List Int) (pre cur : List Fc), PlaceOk r place →
    ∃ X, (lapGo r pl fr n place P S T).path = T ++ X ∧ X.length = n ∧ X.foldl stepS ⟨pre, cur, P, place, n⟩ = ⟨pre, X.foldl (fun l q => sowF q l) cur, (lapGo r pl fr n place P S T).pits, (lapGo r pl fr n place P S T).last, 0⟩
  | 0, place, P, S, T, pre, cur, _ => ⟨[], by simp [lapGo], rfl, rfl⟩
  | n + 1, place, P, S, T, pre, cur, h => by
    have hq := stepP_ok hb pl fr place hp h
    have hs : ∀ q, stepS ⟨pre, cur, P, place, ((n + 1 : Nat) : Int)⟩ q = ⟨pre, sowF q cur, if 0 ≤ q then bump P q else P, q, (n : Int)⟩ := fun q => by
      unfold stepS
      rw [if_neg (by dsimp only; omega)]
      unfold step1
      simp only [FsS.mk.injEq, true_and]
      omega
    simp only [lapGo]
    obtain ⟨q, hqq⟩ : ∃ q, q = stepP r pl fr place := ⟨_, rfl⟩
    rw [← hqq] at hq ⊢
    by_cases h1 : q = -1
    · rw [if_pos h1]
      obtain ⟨X, e1, e2, e3⟩ := lapGo_run hb pl fr hp n q P (bump S pl) (T ++ [q]) pre (sowF q cur) hq
      refine ⟨q :: X, by rw [e1]; simp, by simp [e2], ?_⟩
      rw [List.foldl_cons, hs, if_neg (by omega)]
      exact e3
    · rw [if_neg h1]
      obtain ⟨X, e1, e2, e3⟩ := lapGo_run hb pl fr hp n q (bump P q) S (T ++ [q]) pre (sowF q cur) hq
      refine ⟨q :: X, by rw [e1]; simp, by simp [e2], ?_⟩
      rw [List.foldl_cons, hs, if_pos (by rcases hq with h | h <;> omega)]
      exact e3
theorem lapGo_places {r : R} (hb : r.Bd) (pl fr : Int) (hp : 0 ≤ pl ∧ pl ≤ 1) : ∀ (n : Nat) (place : Int) (P S T : List Int), PlaceOk r place → (∀ q ∈ T, PlaceOk r q) → ∀ q ∈ (lapGo r pl fr n place P S T).path, PlaceOk r q
  | 0, place, P, S, T, _, h => h
  | n + 1, place, P, S, T, h, ht => by
    have hq := stepP_ok hb pl fr place hp h
    simp only [lapGo]
    have h2 : ∀ q ∈ T ++ [stepP r pl fr place], PlaceOk r q := fun q hq' => by
      rcases List.mem_append.1 hq' with h1 | h1
      · exact ht q h1
      · simp at h1; rw [h1]; exact hq
    split
    · exact lapGo_places hb pl fr hp n _ _ _ _ hq h2
    · exact lapGo_places hb pl fr hp n _ _ _ _ hq h2
theorem lapP_places {r : R} (hb : r.Bd) (pl fr : Int) (hp : 0 ≤ pl ∧ pl ≤ 1) (P S T : List Int) (hf : PlaceOk r fr) (ht : ∀ q ∈ T, PlaceOk r q) : ∀ q ∈ (lapP r pl fr P S T).path, PlaceOk r q := lapGo_places hb pl fr hp _ _ _ _ _ hf ht
theorem lap_run {r : R} (hb : r.Bd) (pl fr : Int) (hp : 0 ≤ pl ∧ pl ≤ 1) (P S T : List Int) (pre cur : List Fc) (hf : PlaceOk r fr) (h : 0 < P.getD fr.toNat 0) :
    ∃ X, (lapP r pl fr P S T).path = T ++ X ∧ X.foldl stepS ⟨pre, cur, P, fr, 0⟩ = ⟨pre ++ cur ++ [⟨1, fr, P.getD fr.toNat 0⟩], sowsF X, (lapP r pl fr P S T).pits, (lapP r pl fr P S T).last, 0⟩ := by
  obtain ⟨X, e1, e2, e3⟩ := lapGo_run hb pl fr hp (P.getD fr.toNat 0).toNat fr (P.set fr.toNat 0) S T (pre ++ cur ++ [⟨1, fr, P.getD fr.toNat 0⟩]) [] hf
  refine ⟨X, e1, ?_⟩
  cases X with
  | nil => exact absurd (show 0 = (P.getD fr.toNat 0).toNat from e2) (by omega)
  | cons q X =>
    rw [← show lapGo r pl fr (P.getD fr.toNat 0).toNat fr (P.set fr.toNat 0) S T = lapP r pl fr P S T from rfl]
    refine Eq.trans ?_ e3
    rw [List.foldl_cons, List.foldl_cons]
    congr 1
    unfold stepS
    rw [if_pos rfl, if_neg (by dsimp only; omega)]
    unfold openF
    dsimp only
    rw [Int.toNat_of_nonneg (by omega)]
theorem lapsGo_run {r : R} (hb : r.Bd) (pl : Int) (hp : 0 ≤ pl ∧ pl ≤ 1) {t : Int} : ∀ (k : Nat) (L L' : Lap) (n : Int) (pre cur : List Fc), Brd r L.pits L.stores t → PlaceOk r L.last → sowGo r pl k L = some (L', n) →
    ∃ X, L'.path = L.path ++ X ∧ outF (X.foldl stepS ⟨pre, cur, L.pits, L.last, 0⟩) = pre ++ cur ++ lapsGo r pl k L
  | 0, L, L', n, pre, cur, h1, h2, h => by
    unfold sowGo at h
    split at h
    · simp at h
    · simp at h
      obtain ⟨rfl, rfl⟩ := h
      exact ⟨[], by simp, by simp [outF, lapsGo]⟩
  | k + 1, L, L', n, pre, cur, h1, h2, h => by
    unfold sowGo at h
    by_cases hm : moreP r L = true
    · rw [if_pos hm] at h
      have hl0 := moreP_last hm
      have hpos : 0 < L.pits.getD L.last.toNat 0 := by
        have : 1 < L.pits.getD L.last.toNat 0 := by simp [moreP] at hm; simpa using hm.2
        omega
      obtain ⟨fn, hfn⟩ : ∃ fn : Nat, L.last = fn := ⟨L.last.toNat, by omega⟩
      have hfl : fn < L.pits.length := by have := h1.lp; rcases h2 with h | h <;> omega
      have hbrd := lapP_brd hb pl fn hp L.pits L.stores L.path t h1 hfl
      rw [← hfn] at hbrd
      obtain ⟨X, e1, e2⟩ := lap_run hb pl L.last hp L.pits L.stores L.path pre cur h2 hpos
      obtain ⟨Y, e3, e4⟩ := lapsGo_run hb pl hp k (lapP r pl L.last L.pits L.stores L.path) L' n (pre ++ cur ++ [⟨1, L.last, L.pits.getD L.last.toNat 0⟩]) (sowsF X) hbrd.1 hbrd.2.2 h
      refine ⟨X ++ Y, by rw [e3, e1]; simp, ?_⟩
      rw [List.foldl_append, e2, e4]
      simp only [lapsGo]
      rw [if_pos hm, e1, List.drop_left]
      simp [lapF]
    · rw [if_neg hm] at h
      simp at h
      obtain ⟨rfl, rfl⟩ := h
      refine ⟨[], by simp, ?_⟩
      simp only [lapsGo]
      rw [if_neg hm]
      simp [outF]
theorem lapsF_run {r : R} (hb : r.Bd) (pl : Int) (fn : Nat) (hp : 0 ≤ pl ∧ pl ≤ 1) (P S : List Int) {t : Int} (h1 : Brd r P S t) (hf : fn < P.length) (hn : 0 < P.getD fn 0) {L : Lap} {n : Int} (h : sowP r pl fn P S = some (L, n)) :
    outF (L.path.foldl stepS ⟨[], [], P, fn, 0⟩) = lapsF r pl fn P S := by
  have hbrd := lapP_brd hb pl fn hp P S [] t h1 hf
  obtain ⟨X, e1, e2⟩ := lap_run hb pl fn hp P S [] [] [] (.inr ⟨by omega, by have := h1.lp; omega⟩) (by simpa using hn)
  obtain ⟨Y, e3, e4⟩ := lapsGo_run hb pl hp 99 (lapP r pl fn P S []) L n ([] ++ [] ++ [⟨1, fn, P.getD (fn : Int).toNat 0⟩]) (sowsF X) hbrd.1 hbrd.2.2 h
  rw [e3, e1, List.nil_append, List.foldl_append, e2, e4]
  unfold lapsF lapF
  rw [e1]
  simp

end Go.Proofs.Ytbjgigdkbjabaaa
