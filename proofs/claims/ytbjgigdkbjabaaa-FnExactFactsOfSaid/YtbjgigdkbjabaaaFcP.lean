/- FcP: what holds along the path of a move, where its facts are told from the path. Plain facts, under the premises that each names. -/
import Derived.Test.YtbjgigdkbjabaaaFcK
namespace Go.Proofs.Ytbjgigdkbjabaaa
set_option linter.unusedSimpArgs false
set_option linter.unusedVariables false
set_option linter.unnecessarySimpa false
open Go.RowKit Go.ChangeShapes Go.WideShapes Go.ChangeAt Go.Joins

theorem sowF_at {q : Int} {x : Fc} {l2 : List Fc} (hx : x.place = q) : ∀ {l1 : List Fc}, (∀ f ∈ l1, ¬ f.place = q) → sowF q (l1 ++ x :: l2) = l1 ++ ⟨x.kind, x.place, x.count + 1⟩ :: l2
  | [], _ => by
    rw [List.nil_append]
    unfold sowF
    rw [if_pos hx]
    rfl
  | y :: l1, h => by
    rw [List.cons_append]
    unfold sowF
    rw [if_neg (h y (List.mem_cons_self ..)), sowF_at hx (fun f hf => h f (List.mem_cons_of_mem _ hf))]
    rfl
theorem sowF_none {q : Int} : ∀ {l : List Fc}, (∀ f ∈ l, ¬ f.place = q) → sowF q l = l ++ [⟨2, q, 1⟩]
  | [], _ => rfl
  | y :: l, h => by
    unfold sowF
    rw [if_neg (h y (List.mem_cons_self ..)), sowF_none (fun f hf => h f (List.mem_cons_of_mem _ hf))]
    rfl
theorem sowF_set {q : Int} {l : List Fc} {j : Nat} (hj : j < l.length) (hx : l[j].place = q) (h : ∀ (m : Nat) (hm : m < l.length), m < j → ¬ l[m].place = q) : sowF q l = l.set j ⟨l[j].kind, l[j].place, l[j].count + 1⟩ := by
  have e : l = l.take j ++ l[j] :: l.drop (j + 1) := by rw [← List.drop_eq_getElem_cons hj, List.take_append_drop]
  rw [List.set_eq_take_append_cons_drop, if_pos hj]
  conv => lhs; rw [e]
  exact sowF_at hx (fun f hf => by
    obtain ⟨m, hm, rfl⟩ := List.mem_iff_getElem.1 hf
    rw [List.length_take] at hm
    rw [List.getElem_take]
    exact h m (by omega) (by omega))

/-- a lap may begin here -/
def okS (n : Nat) (s : FsS) : Prop := s.left = 0 → 0 ≤ s.fr ∧ s.fr < n ∧ 0 < s.pits.getD s.fr.toNat 0
def GoodR (n : Nat) (s : FsS) (X : List Int) : Prop := ∀ k, k < X.length → okS n ((X.take k).foldl stepS s)
theorem run_left : ∀ (X : List Int) (s : FsS), (X.length : Int) ≤ s.left → (X.foldl stepS s).left = s.left - X.length
  | [], s, _ => by simp
  | q :: X, s, h => by
    simp only [List.length_cons] at h
    have h1 : (stepS s q).left = s.left - 1 := by
      unfold stepS
      rw [if_neg (by omega)]
      rfl
    rw [List.foldl_cons, run_left X (stepS s q) (by omega), h1]
    simp only [List.length_cons]
    omega
theorem good_app {n : Nat} {s : FsS} {X Y : List Int} (hX : GoodR n s X) (hY : GoodR n (X.foldl stepS s) Y) : GoodR n s (X ++ Y) := fun k hk => by
  by_cases h : k < X.length
  · rw [List.take_append_of_le_length (by omega)]
    exact hX k h
  · rw [List.take_append, List.take_of_length_le (by omega), List.foldl_append]
    exact hY (k - X.length) (by simp at hk; omega)
theorem good_lap {n : Nat} {s : FsS} {X : List Int} (h0 : s.left = 0) (hf : 0 ≤ s.fr ∧ s.fr < n ∧ 0 < s.pits.getD s.fr.toNat 0) (hX : (X.length : Int) = s.pits.getD s.fr.toNat 0) : GoodR n s X := fun k hk => by
  cases k with
  | zero => exact fun _ => hf
  | succ k =>
    cases X with
    | nil => simp at hk
    | cons q X =>
      intro hl
      exfalso
      rw [List.take_succ_cons, List.foldl_cons] at hl
      simp only [List.length_cons] at hk hX
      have h1 : (stepS s q).left = s.pits.getD s.fr.toNat 0 - 1 := by
        unfold stepS
        rw [if_pos h0]
        rfl
      rw [run_left (X.take k) _ (by rw [h1, List.length_take]; omega), h1, List.length_take] at hl
      omega
theorem lapsGo_good {r : R} (hb : r.Bd) (pl : Int) (hp : 0 ≤ pl ∧ pl ≤ 1) {t : Int} (n0 : Nat) : ∀ (k : Nat) (L L' : Lap) (n : Int) (pre cur : List Fc), L.pits.length = n0 → Brd r L.pits L.stores t → PlaceOk r L.last → sowGo r pl k L = some (L', n) →
    ∀ X, L'.path = L.path ++ X → GoodR n0 ⟨pre, cur, L.pits, L.last, 0⟩ X
  | 0, L, L', n, pre, cur, hn, h1, h2, h, X, hX => by
    unfold sowGo at h
    split at h
    · simp at h
    · simp at h
      obtain ⟨rfl, rfl⟩ := h
      have : X = [] := by simpa using hX.symm
      subst this
      exact fun k hk => by simp at hk
  | k + 1, L, L', n, pre, cur, hn, h1, h2, h, X, hX => by
    unfold sowGo at h
    by_cases hm : moreP r L = true
    · rw [if_pos hm] at h
      have hl0 := moreP_last hm
      have hpos : 0 < L.pits.getD L.last.toNat 0 := by
        have : 1 < L.pits.getD L.last.toNat 0 := by simp [moreP] at hm; simpa using hm.2
        omega
      obtain ⟨fn, hfn⟩ : ∃ fn : Nat, L.last = fn := ⟨L.last.toNat, by omega⟩
      have hfl : fn < L.pits.length := by have := h1.lp; rcases h2 with h | h <;> omega
      have hbrd := lapP_brd hb pl fn hp L.pits L.stores L.path t h1 hfl
      rw [← hfn] at hbrd
      obtain ⟨Y, e1, e2⟩ := lap_run hb pl L.last hp L.pits L.stores L.path pre cur h2 hpos
      obtain ⟨Z, e3, _⟩ := lapsGo_run hb pl hp k (lapP r pl L.last L.pits L.stores L.path) L' n [] [] hbrd.1 hbrd.2.2 h
      have hXYZ : X = Y ++ Z := by
        rw [e3, e1, List.append_assoc] at hX
        exact (List.append_cancel_left hX).symm
      have hgd : L.pits.getD L.last.toNat 0 = L.pits[fn] := by rw [hfn]; simp [hfl]
      have hYl : (Y.length : Int) = L.pits.getD L.last.toNat 0 := by
        have := hbrd.2.1
        rw [e1, List.length_append] at this
        rw [hgd]
        omega
      have hlen : (lapP r pl L.last L.pits L.stores L.path).pits.length = n0 := by
        have a := hbrd.1.lp
        have b := h1.lp
        omega
      subst hXYZ
      refine good_app (good_lap rfl ⟨by dsimp only; omega, by dsimp only; omega, hpos⟩ hYl) ?_
      rw [e2]
      exact lapsGo_good hb pl hp n0 k _ L' n _ _ hlen hbrd.1 hbrd.2.2 h Z e3
    · rw [if_neg hm] at h
      simp at h
      obtain ⟨rfl, rfl⟩ := h
      have : X = [] := by simpa using hX.symm
      subst this
      exact fun k hk => by simp at hk
theorem path_good {r : R} (hb : r.Bd) (pl : Int) (fn : Nat) (hp : 0 ≤ pl ∧ pl ≤ 1) (P S : List Int) {t : Int} (h1 : Brd r P S t) (hf : fn < P.length) (hn : 0 < P.getD fn 0) {L : Lap} {n : Int} (h : sowP r pl fn P S = some (L, n)) : GoodR P.length ⟨[], [], P, fn, 0⟩ L.path := by
  have hbrd := lapP_brd hb pl fn hp P S [] t h1 hf
  obtain ⟨X, e1, e2⟩ := lap_run hb pl fn hp P S [] [] [] (.inr ⟨by omega, by have := h1.lp; omega⟩) (by simpa using hn)
  obtain ⟨Z, e3, _⟩ := lapsGo_run hb pl hp 99 (lapP r pl fn P S []) L n [] [] hbrd.1 hbrd.2.2 h
  have hXl : (X.length : Int) = P.getD (fn : Int).toNat 0 := by
    have := hbrd.2.1
    rw [e1] at this
    simp [hf] at this ⊢
    omega
  rw [e3, e1, List.nil_append]
  refine good_app (good_lap rfl ⟨by dsimp only; omega, by dsimp only; omega, by simpa using hn⟩ hXl) ?_
  rw [e2]
  exact lapsGo_good hb pl hp P.length 99 _ L n _ _ (by have a := hbrd.1.lp; have b := h1.lp; omega) hbrd.1 hbrd.2.2 h Z e3
theorem sowGo_places {r : R} (hb : r.Bd) (pl : Int) (hp : 0 ≤ pl ∧ pl ≤ 1) : ∀ (k : Nat) (L L' : Lap) (n : Int), PlaceOk r L.last → (∀ q ∈ L.path, PlaceOk r q) → (∀ (fr : Int) (P S T : List Int), PlaceOk r fr → PlaceOk r (lapP r pl fr P S T).last) → sowGo r pl k L = some (L', n) → ∀ q ∈ L'.path, PlaceOk r q
  | 0, L, L', n, h1, h2, h3, h => by
    unfold sowGo at h
    split at h
    · simp at h
    · simp at h
      obtain ⟨rfl, rfl⟩ := h
      exact h2
  | k + 1, L, L', n, h1, h2, h3, h => by
    unfold sowGo at h
    split at h
    · exact sowGo_places hb pl hp k _ L' n (h3 _ _ _ _ h1) (lapP_places hb pl _ hp _ _ _ h1 h2) h3 h
    · simp at h
      obtain ⟨rfl, rfl⟩ := h
      exact h2
theorem lapGo_last_ok {r : R} (hb : r.Bd) (pl fr : Int) (hp : 0 ≤ pl ∧ pl ≤ 1) : ∀ (n : Nat) (place : Int) (P S T : List Int), PlaceOk r place → PlaceOk r (lapGo r pl fr n place P S T).last
  | 0, place, P, S, T, h => h
  | n + 1, place, P, S, T, h => by
    have hq := stepP_ok hb pl fr place hp h
    simp only [lapGo]
    split
    · exact lapGo_last_ok hb pl fr hp n _ _ _ _ hq
    · exact lapGo_last_ok hb pl fr hp n _ _ _ _ hq
theorem path_places {r : R} (hb : r.Bd) (pl fr : Int) (hp : 0 ≤ pl ∧ pl ≤ 1) (P S : List Int) (hf : PlaceOk r fr) {L : Lap} {n : Int} (h : sowP r pl fr P S = some (L, n)) : ∀ q ∈ L.path, PlaceOk r q :=
  sowGo_places hb pl hp 99 _ L n (lapGo_last_ok hb pl fr hp _ _ _ _ _ hf) (lapP_places hb pl fr hp P S [] hf (fun q hq => by cases hq)) (fun fr P S T h => lapGo_last_ok hb pl fr hp _ _ _ _ _ h) h
/-- the state along the path -/
structure InvS (n i : Nat) (s : FsS) : Prop where
  pl : s.pits.length = n
  pb : ∀ x ∈ s.pits, 0 ≤ x ∧ x ≤ 96 + (i : Int)
  fb : -1 ≤ s.fr ∧ s.fr < n
  lb : 0 ≤ s.left ∧ s.left ≤ 96 + (i : Int)
  cb : ∀ f ∈ s.cur, f.kind = 2 ∧ (-1 ≤ f.place ∧ f.place ≤ 1000) ∧ 1 ≤ f.count ∧ f.count ≤ 1 + (i : Int)
  ob : (outF s).length ≤ 2 * i
theorem mem_set' {l : List Int} {i : Nat} {v x : Int} (h : x ∈ l.set i v) : x ∈ l ∨ x = v := List.mem_or_eq_of_mem_set h
theorem InvS.step {n i : Nat} {s : FsS} {q : Int} (h : InvS n i s) (hn : n ≤ 1000) (ho : okS n s) (hq : -1 ≤ q ∧ q < n) : InvS n (i + 1) (stepS s q) := by
  obtain ⟨h1, h2, h3, h4, h5, h6⟩ := h
  have hlen := stepS_len s q
  have key : ∀ s' : FsS, s'.pits.length = n → (∀ x ∈ s'.pits, 0 ≤ x ∧ x ≤ 96 + (i : Int)) → (1 ≤ s'.left ∧ s'.left ≤ 96 + (i : Int)) → (∀ f ∈ s'.cur, f.kind = 2 ∧ (-1 ≤ f.place ∧ f.place ≤ 1000) ∧ 1 ≤ f.count ∧ f.count ≤ 1 + (i : Int)) → step1 s' q = stepS s q → InvS n (i + 1) (stepS s q) := fun s' k1 k2 k3 k4 k5 => by
    refine ⟨?_, ?_, ?_, ?_, ?_, by omega⟩
    · rw [← k5]
      unfold step1
      dsimp only
      split
      · rw [bump_length]; exact k1
      · exact k1
    · rw [← k5]
      unfold step1
      dsimp only
      intro x hx
      split at hx
      · rename_i hq0
        have hqn : q.toNat < s'.pits.length := by omega
        unfold bump at hx
        rcases mem_set' hx with hx | hx
        · have := k2 x hx; omega
        · have := k2 _ (List.getElem_mem hqn)
          have e : s'.pits.getD q.toNat 0 = s'.pits[q.toNat] := by simp [hqn]
          rw [e] at hx
          omega
      · have := k2 x hx; omega
    · rw [← k5]
      exact hq
    · rw [← k5]
      show 0 ≤ s'.left - 1 ∧ s'.left - 1 ≤ 96 + ((i + 1 : Nat) : Int)
      omega
    · rw [← k5]
      intro f hf
      have := sowF_bd (q := q) (m := 1 + (i : Int)) (by omega) (by omega) k4 f hf
      refine ⟨this.1, this.2.1, this.2.2.1, ?_⟩
      have := this.2.2.2
      omega
  by_cases hl : s.left = 0
  · obtain ⟨f0, f1, f2⟩ := ho hl
    have hfr : s.fr.toNat < s.pits.length := by omega
    have e : s.pits.getD s.fr.toNat 0 = s.pits[s.fr.toNat] := by simp [hfr]
    have hb := h2 _ (List.getElem_mem hfr)
    refine key (openF s) ?_ ?_ ?_ (fun f hf => by cases hf) ?_
    · unfold openF; simp [h1]
    · intro x hx
      rcases mem_set' hx with hx | hx
      · exact h2 x hx
      · omega
    · unfold openF
      dsimp only
      omega
    · unfold stepS
      rw [if_pos hl]
  · refine key s h1 h2 (by omega) h5 ?_
    unfold stepS
    rw [if_neg hl]

end Go.Proofs.Ytbjgigdkbjabaaa
