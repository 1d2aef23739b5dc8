/- SowV: what is known of sown seeds: none is added or lost, and the path tells each of them. Each fact holds under the premises that it states. -/
import Derived.Test.YtbjdfgfebepacaaPath
import Derived.Test.YtbjdfgfebepacaaLapR
import Derived.Test.YtbjdfgfebepacaaDoneP
namespace Go.Proofs.Ytbjdfgfebepacaa
set_option linter.unusedSimpArgs false
set_option linter.unusedVariables false
set_option linter.unnecessarySimpa false
open Go.RowKit Go.ChangeShapes Go.WideShapes Go.ChangeAt Go.Joins

def cntS (T : List Int) : Int := (T.count (-1) : Nat)
theorem cntS_snoc (T : List Int) (q : Int) : cntS (T ++ [q]) = cntS T + if q = -1 then 1 else 0 := by
  unfold cntS
  rw [List.count_append]
  by_cases h : q = -1
  · subst h; simp
  · rw [if_neg h, List.count_cons_of_ne h]; simp
theorem getD_bump {l : List Int} {i : Nat} (hi : i < l.length) (j : Nat) : (bump l (i : Int)).getD j 0 = l.getD j 0 + if j = i then 1 else 0 := by
  unfold bump
  simp only [Int.toNat_natCast, List.getD_eq_getElem?_getD]
  by_cases h : j = i
  · subst h; simp [hi]
  · rw [if_neg h, List.getElem?_set_ne (fun e => h e.symm)]; simp
theorem stepP_store {r : R} {pl fr place : Int} (hb : r.Bd) (hp : 0 ≤ pl ∧ pl ≤ 1) (hpl : PlaceOk r place) (h : stepP r pl fr place = -1) : r.stores = true := by
  have key : ∀ x, PlaceOk r x → nextP r pl x = -1 → r.stores = true := by
    intro x hx hn
    have h2 := hb.lo
    unfold nextP at hn
    split at hn
    · have := Int.emod_nonneg ((pl + 1) * r.pits) (show (2 * r.pits) ≠ 0 by omega)
      omega
    · split at hn
      · rename_i h3; exact h3.1
      · have := Int.emod_nonneg (x + 1) (show (2 * r.pits) ≠ 0 by omega)
        omega
  unfold stepP at h
  split at h
  · exact key _ (nextP_ok hb pl place hp hpl) h
  · exact key _ hpl h

/-- what is known of a lap that begins with stores S0 -/
structure PathOk (r : R) (pn : Nat) (S0 : List Int) (L : Lap) : Prop where
  all : ∀ q ∈ L.path, PlaceOk r q
  own : L.stores.getD pn 0 - cntS L.path = S0.getD pn 0
  oth : L.stores.getD (1 - pn) 0 = S0.getD (1 - pn) 0
  last : L.path.getLast? = some L.last
  st : L.last = -1 → r.stores = true ∧ 0 < L.stores.getD pn 0
  pit : L.last ≠ -1 → 0 < L.pits.getD L.last.toNat 0
theorem lapGo_path {r : R} (hb : r.Bd) (pn : Nat) (hp : pn ≤ 1) (fr : Int) (S0 : List Int) : ∀ (n : Nat) (place : Int) (P S T : List Int) (t : Int), PlaceOk r place → Brd r P S t → (∀ q ∈ T, PlaceOk r q) →
    S.getD pn 0 - cntS T = S0.getD pn 0 → S.getD (1 - pn) 0 = S0.getD (1 - pn) 0 → PathOk r pn S0 (lapGo r pn fr (n + 1) place P S T)
  | n, place, P, S, T, t, h1, h2, h3, h4, h5 => by
    have hq := stepP_ok hb pn fr place (by omega) h1
    have hst := fun h => stepP_store (fr := fr) hb (show 0 ≤ (pn : Int) ∧ (pn : Int) ≤ 1 by omega) h1 h
    have hl2 := h2.ls
    have hpl : pn < S.length := by omega
    have hopl : 1 - pn < S.length := by omega
    have hne : ¬ 1 - pn = pn := by omega
    rw [lapGo]
    revert hq hst
    generalize stepP r pn fr place = q
    intro hq hst
    have hT : ∀ x ∈ T ++ [q], PlaceOk r x := fun x hx => by
      rcases List.mem_append.1 hx with hx | hx
      · exact h3 x hx
      · have : x = q := by simpa using hx
        rw [this]; exact hq
    (try dsimp only)
    by_cases hm : q = -1
    · rw [if_pos hm]
      have e1 := getD_bump hpl pn
      have e2 := getD_bump hpl (1 - pn)
      rw [if_pos rfl] at e1
      rw [if_neg hne] at e2
      have e3 := cntS_snoc T q
      rw [if_pos hm] at e3
      cases n with
      | zero =>
        rw [lapGo]
        have h0 : 0 ≤ S.getD pn 0 := by rw [List.getD_eq_getElem?_getD]; simp [hpl]; exact h2.ns _ (List.getElem_mem hpl)
        exact ⟨hT, by show (bump S pn).getD pn 0 - cntS (T ++ [q]) = _; omega, by show (bump S pn).getD (1 - pn) 0 = _; omega, by simp, fun _ => ⟨hst hm, by show 0 < (bump S pn).getD pn 0; omega⟩, fun h => absurd hm h⟩
      | succ m => exact lapGo_path hb pn hp fr S0 m q P (bump S pn) (T ++ [q]) (t + 1) hq (h2.bumpS (by omega) (by omega)) hT (by omega) (by omega)
    · rw [if_neg hm]
      have e3 := cntS_snoc T q
      rw [if_neg hm] at e3
      have hq2 : 0 ≤ q ∧ q < 2 * r.pits := by
        rcases hq with h | h
        · exact absurd h hm
        · exact h
      obtain ⟨i, rfl⟩ : ∃ i : Nat, q = i := ⟨q.toNat, by omega⟩
      have hi : i < P.length := by have := h2.lp; omega
      cases n with
      | zero =>
        rw [lapGo]
        have h0 : 0 ≤ P.getD i 0 := by rw [List.getD_eq_getElem?_getD]; simp [hi]; exact h2.np _ (List.getElem_mem hi)
        have e1 := getD_bump hi i
        rw [if_pos rfl] at e1
        exact ⟨hT, by show S.getD pn 0 - cntS (T ++ [(i : Int)]) = _; omega, h5, by simp, fun h => absurd h hm, fun _ => by show 0 < (bump P i).getD (i : Int).toNat 0; rw [Int.toNat_natCast]; omega⟩
      | succ m => exact lapGo_path hb pn hp fr S0 m i (bump P i) S (T ++ [(i : Int)]) (t + 1) hq (h2.bumpP hq2.1 hq2.2) hT (by omega) h5
theorem lapP_path {r : R} (hb : r.Bd) (pn : Nat) (hp : pn ≤ 1) (fn : Nat) (S0 P S T : List Int) (t : Int) (h : Brd r P S t) (hf : fn < P.length) (hn : 0 < P[fn]) (h3 : ∀ q ∈ T, PlaceOk r q) (h4 : S.getD pn 0 - cntS T = S0.getD pn 0) (h5 : S.getD (1 - pn) 0 = S0.getD (1 - pn) 0) :
    PathOk r pn S0 (lapP r pn fn P S T) := by
  have e1 : (P.getD (fn : Int).toNat 0).toNat = (P[fn].toNat - 1) + 1 := by simp [hf]; omega
  unfold lapP
  rw [e1]
  exact lapGo_path hb pn hp fn S0 _ fn _ S T _ (.inr ⟨by omega, by have := h.lp; omega⟩) (h.pit fn hf (Int.le_refl 0)) h3 h4 h5
theorem moreP_pit {r : R} {L : Lap} (h : moreP r L = true) : 1 < L.pits.getD L.last.toNat 0 := by
  simp [moreP] at h; simpa using h.2
theorem sowGo_path {r : R} (hb : r.Bd) (pn : Nat) (hp : pn ≤ 1) (S0 : List Int) {t : Int} : ∀ (k : Nat) (L L' : Lap) (n : Int), Brd r L.pits L.stores t → PlaceOk r L.last → PathOk r pn S0 L → sowGo r pn k L = some (L', n) → PathOk r pn S0 L'
  | 0, L, L', n, h1, h2, h3, h => by
    unfold sowGo at h
    split at h
    · simp at h
    · simp at h
      obtain ⟨rfl, rfl⟩ := h
      exact h3
  | k + 1, L, L', n, h1, h2, h3, h => by
    unfold sowGo at h
    split at h
    · rename_i hm
      have hl := moreP_last hm
      have hmp := moreP_pit hm
      obtain ⟨fn, hfn⟩ : ∃ fn : Nat, L.last = fn := ⟨L.last.toNat, by omega⟩
      rw [hfn] at h hmp
      have hf : fn < L.pits.length := by
        rcases h2 with h2 | h2
        · omega
        · have := h1.lp; omega
      obtain ⟨k1, k2, k3⟩ := lapP_brd hb pn fn (by omega) L.pits L.stores L.path t h1 hf
      have hpos : 0 < L.pits[fn] := by
        rw [Int.toNat_natCast, List.getD_eq_getElem?_getD] at hmp
        simp [hf] at hmp
        omega
      exact sowGo_path hb pn hp S0 k _ L' n k1 k3 (lapP_path hb pn hp fn S0 L.pits L.stores L.path t h1 hf hpos h3.all h3.own h3.oth) h
    · simp at h
      obtain ⟨rfl, rfl⟩ := h
      exact h3
theorem sowGo_laps {r : R} {pl : Int} : ∀ (k : Nat) (L L' : Lap) (n : Int), sowGo r pl k L = some (L', n) → 100 ≤ n + k
  | 0, L, L', n, h => by
    unfold sowGo at h
    split at h
    · simp at h
    · simp at h
      omega
  | k + 1, L, L', n, h => by
    unfold sowGo at h
    split at h
    · have := sowGo_laps k _ L' n h
      omega
    · simp at h
      omega
theorem brd_ok {r : R} {u v : List Int} {t : Int} (h : Brd r u v t) (hr : r.ok = true) (ht : t ≤ 96) : (P.mk u v 0).ok r = true := by
  have h1 := h.bp ht
  have h2 := h.bs ht
  have h3 := h.sm
  simp only [P.ok, Bool.and_eq_true, decide_eq_true_eq]
  refine ⟨⟨⟨⟨⟨⟨hr, h.lp⟩, h.ls⟩, inB_iff.2 (by show 0 ≤ (0 : Int) ∧ (0 : Int) ≤ 1; omega)⟩, ?_⟩, ?_⟩, by show u.sum + v.sum ≤ 96; omega⟩
  · exact List.all_eq_true.2 (fun x hx => inB_iff.2 (by have := h1 x hx; omega))
  · exact List.all_eq_true.2 (fun x hx => inB_iff.2 (by have := h2 x hx; omega))

/-- what the law asks of a move that is sown to its end -/
structure SowOk (r : R) (p : P) (pn : Nat) (s : Sn) (T : List Int) : Prop where
  sum : s.pits.sum + s.stores.sum = p.pits.sum + p.stores.sum
  ok : (P.mk s.pits s.stores 0).ok r = true
  laps : 1 ≤ s.laps ∧ s.laps ≤ 100
  all : ∀ q ∈ T, -1 ≤ q ∧ q < 2 * r.pits
  own : s.stores.getD pn 0 - p.stores.getD pn 0 = cntS T
  oth : s.stores.getD (1 - pn) 0 = p.stores.getD (1 - pn) 0
  last : T.getLast? = some s.last
  st : s.last = -1 → r.stores = true ∧ 0 < s.stores.getD pn 0
  pit : s.last ≠ -1 → 0 ≤ s.last ∧ s.last < 2 * r.pits ∧ 0 < s.pits.getD s.last.toNat 0
  tl : T.length ≤ 100000
theorem sowing_hold (r : R) (p : P) (pn : Nat) (move : Int) (hok : p.ok r = true) (hpn : p.player = pn) (h0 : 0 ≤ move) (h1 : move < r.pits) :
    (p.pits.getD (p.player * r.pits + move).toNat 0 = 0 ∧ (lapR r p move).2 = 6 ∧ (moveP r p move).2 = 6 ∧ (pathP r p move).2 = 6) ∨
    (p.pits.getD (p.player * r.pits + move).toNat 0 ≠ 0 ∧ (lapR r p move).2 = 0 ∧ (lapR r p move).1.pits.sum + (lapR r p move).1.stores.sum = p.pits.sum + p.stores.sum ∧ (lapR r p move).1.laps = 1 ∧ (pathP r p move).2 = (moveP r p move).2 ∧
      endlessP r p move = decide ((moveP r p move).2 = 10) ∧
      (((moveP r p move).2 = 10 ∧ r.relay = true) ∨ ((moveP r p move).2 = 0 ∧ SowOk r p pn (moveP r p move).1 (pathP r p move).1 ∧ (r.relay = false → (moveP r p move).1 = (lapR r p move).1))) ∧ (P.mk (lapR r p move).1.pits (lapR r p move).1.stores 0).ok r = true) := by
  obtain ⟨hb, ⟨pn', hpn', hp1⟩, t, hB, ht0, ht1⟩ := P.ok_parts hok
  obtain rfl : pn' = pn := by omega
  have hlo := hb.lo
  have hir : inB move 0 (r.pits - 1) = true := inB_iff.2 (by omega)
  by_cases hz : p.pits.getD (p.player * r.pits + move).toNat 0 = 0
  · left
    have hc : codeP r p move = 6 := by unfold codeP; rw [hok, hir, if_neg (by simp), if_neg (by simp), if_pos hz]
    refine ⟨hz, ?_, ?_, ?_⟩
    · unfold lapR; rw [hc]; rfl
    · unfold moveP; rw [hc]; rfl
    · unfold pathP; rw [hc]; rfl
  · right
    have hc : codeP r p move = 0 := by unfold codeP; rw [hok, hir, if_neg (by simp), if_neg (by simp), if_neg hz]
    have hmr : 0 ≤ p.player * r.pits + move ∧ p.player * r.pits + move < 2 * r.pits := by
      have : pn' = 0 ∨ pn' = 1 := by omega
      rcases this with h | h <;> rw [hpn', h] <;> simp <;> omega
    obtain ⟨fn, hfn⟩ : ∃ fn : Nat, p.player * r.pits + move = fn := ⟨(p.player * r.pits + move).toNat, by omega⟩
    have hf : fn < p.pits.length := by have := hB.lp; omega
    obtain ⟨k1, k2, k3⟩ := lapP_brd hb pn' fn (by omega) p.pits p.stores [] t hB hf
    have hpos : 0 < p.pits[fn] := by
      rw [hfn, Int.toNat_natCast, List.getD_eq_getElem?_getD] at hz
      simp [hf] at hz
      have := hB.np _ (List.getElem_mem hf)
      omega
    have hP := lapP_path hb pn' hp1 fn p.stores p.pits p.stores [] t hB hf hpos (fun q hq => by cases hq) (by simp [cntS]) rfl
    have hr : r.ok = true := by
      have := hok
      simp only [P.ok, Bool.and_eq_true] at this
      exact this.1.1.1.1.1.1
    have hsm := hB.sm
    have hlap : lapR r p move = (⟨(lapP r pn' fn p.pits p.stores []).pits, (lapP r pn' fn p.pits p.stores []).stores, (lapP r pn' fn p.pits p.stores []).last, 1⟩, 0) := by
      unfold lapR; rw [if_pos hc, hpn', ← hpn', hfn, hpn']
    refine ⟨hz, by rw [hlap], by rw [hlap]; have := k1.sm; show _ + _ = _; dsimp only; omega, by rw [hlap], ?_, ?_, ?_, by rw [hlap]; exact brd_ok k1 hr ht1⟩
    · unfold pathP moveP
      rw [if_pos hc, if_pos hc]
      cases sowP r p.player (p.player * r.pits + move) p.pits p.stores <;> rfl
    · unfold endlessP moveP
      rw [if_pos hc, hc]
      cases sowP r p.player (p.player * r.pits + move) p.pits p.stores <;> simp
    · unfold moveP pathP
      rw [if_pos hc, if_pos hc, hfn, hpn']
      have hs : sowP r pn' fn p.pits p.stores = sowGo r pn' 99 (lapP r pn' fn p.pits p.stores []) := rfl
      cases hso : sowP r pn' fn p.pits p.stores with
      | none =>
        left
        refine ⟨rfl, ?_⟩
        cases hrl : r.relay with
        | true => rfl
        | false =>
          rw [hs] at hso
          unfold sowGo at hso
          simp [moreP, hrl] at hso
      | some x =>
        obtain ⟨L, n⟩ := x
        right
        refine ⟨rfl, ?_, ?_⟩
        · have hso' := hso
          rw [hs] at hso'
          obtain ⟨j1, j2, j3, j4, j5⟩ := sowGo_brd hb pn' (by omega) 99 _ L n k1 k3 hso'
          have hlp := sowGo_laps 99 _ L n hso'
          have hQ := sowGo_path hb pn' hp1 p.stores 99 _ L n k1 k3 hP hso'
          have hle := (hB.bp (Int.le_refl t)) _ (List.getElem_mem hf)
          have s1 := j1.sm
          refine ⟨?_, brd_ok j1 hr ht1, ⟨?_, j5⟩, ?_, ?_, hQ.oth, hQ.last, hQ.st, ?_, ?_⟩
          · dsimp only; omega
          · dsimp only; omega
          · intro q hq
            rcases hQ.all q hq with h | h <;> omega
          · have := hQ.own; dsimp only; omega
          · intro h
            rcases j2 with h2 | h2
            · exact absurd h2 h
            · exact ⟨h2.1, h2.2, hQ.pit h⟩
          · have k2' := k2
            simp at k2'
            dsimp only
            omega
        · intro hrl
          rw [hs] at hso
          unfold sowGo at hso
          simp [moreP, hrl] at hso
          obtain ⟨rfl, rfl⟩ := hso
          rw [hlap]

theorem ok_bds {r : R} {u v : List Int} {pl : Int} (h : (P.mk u v pl).ok r = true) : (∀ x ∈ u, 0 ≤ x ∧ x ≤ 2000) ∧ (∀ x ∈ v, 0 ≤ x ∧ x ≤ 2000) ∧ u.length ≤ 100 ∧ v.length = 2 ∧ (u.length : Int) = 2 * r.pits := by
  obtain ⟨⟨hb2, hb8⟩, _, t, hB, _, h1⟩ := P.ok_parts h
  refine ⟨fun x hx => by have := hB.bp h1 x hx; omega, fun x hx => by have := hB.bs h1 x hx; omega, ?_, hB.ls, hB.lp⟩
  have := hB.lp
  dsimp only at this
  omega

end Go.Proofs.Ytbjdfgfebepacaa
