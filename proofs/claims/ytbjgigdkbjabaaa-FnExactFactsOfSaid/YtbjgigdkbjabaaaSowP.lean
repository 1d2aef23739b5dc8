/- SowP: sowing in plain terms: seeds are kept, and places stay on the board; a move is some laps. Each fact holds under the premises that it states. -/
import Derived.Test.YtbjgigdkbjabaaaLap2
namespace Go.Proofs.Ytbjgigdkbjabaaa
set_option linter.unusedSimpArgs false
set_option linter.unusedVariables false
set_option linter.unnecessarySimpa false

/-- numbers that are not negative -/
def nn (l : List Int) : Prop := ∀ n ∈ l, 0 ≤ n
theorem nn_sum : ∀ {l : List Int}, nn l → 0 ≤ l.sum
  | [], _ => by simp
  | x :: l, h => by
    have h1 := h x (by simp)
    have h2 : 0 ≤ l.sum := nn_sum (fun n hn => h n (by simp [hn]))
    simp only [List.sum_cons]; omega
theorem nn_le : ∀ {l : List Int}, nn l → ∀ n ∈ l, n ≤ l.sum
  | [], _, n, hn => by simp at hn
  | x :: l, h, n, hn => by
    have h1 := h x (by simp)
    have h3 : nn l := fun n hn => h n (by simp [hn])
    have h2 := nn_sum h3
    simp only [List.sum_cons]
    rcases List.mem_cons.1 hn with rfl | hn
    · omega
    · have := nn_le h3 n hn; omega
theorem sum_set : ∀ (l : List Int) (i : Nat) (h : i < l.length) (v : Int), (l.set i v).sum = l.sum - l[i] + v
  | x :: l, 0, _, v => by simp; omega
  | x :: l, i + 1, h, v => by
    have := sum_set l i (by simpa using h) v
    simp only [List.set_cons_succ, List.sum_cons, List.getElem_cons_succ]
    omega
theorem nn_set {l : List Int} (h : nn l) (i : Nat) {v : Int} (hv : 0 ≤ v) : nn (l.set i v) := fun n hn => by
  rcases List.mem_or_eq_of_mem_set hn with hn | rfl
  · exact h n hn
  · exact hv
/-- pits and stores with so many seeds -/
structure Brd (r : R) (P S : List Int) (t : Int) : Prop where
  lp : (P.length : Int) = 2 * r.pits
  ls : S.length = 2
  np : nn P
  ns : nn S
  sm : P.sum + S.sum = t
theorem Brd.bp {r : R} {P S : List Int} {t m : Int} (h : Brd r P S t) (hm : t ≤ m) : bdL P m := fun n hn => ⟨h.np n hn, by
  have := nn_le h.np n hn; have := nn_sum h.ns; have := h.sm; omega⟩
theorem Brd.bs {r : R} {P S : List Int} {t m : Int} (h : Brd r P S t) (hm : t ≤ m) : bdL S m := fun n hn => ⟨h.ns n hn, by
  have := nn_le h.ns n hn; have := nn_sum h.np; have := h.sm; omega⟩
theorem Brd.pit {r : R} {P S : List Int} {t : Int} (h : Brd r P S t) (i : Nat) (hi : i < P.length) {v : Int} (hv : 0 ≤ v) : Brd r (P.set i v) S (t - P[i] + v) :=
  ⟨by simpa using h.lp, h.ls, nn_set h.np i hv, h.ns, by rw [sum_set P i hi v]; have := h.sm; omega⟩
theorem Brd.sto {r : R} {P S : List Int} {t : Int} (h : Brd r P S t) (i : Nat) (hi : i < S.length) {v : Int} (hv : 0 ≤ v) : Brd r P (S.set i v) (t - S[i] + v) :=
  ⟨h.lp, by simpa using h.ls, h.np, nn_set h.ns i hv, by rw [sum_set S i hi v]; have := h.sm; omega⟩
theorem Brd.bumpP {r : R} {P S : List Int} {t : Int} (h : Brd r P S t) {q : Int} (h0 : 0 ≤ q) (h1 : q < 2 * r.pits) : Brd r (bump P q) S (t + 1) := by
  obtain ⟨i, rfl⟩ : ∃ i : Nat, q = i := ⟨q.toNat, by omega⟩
  have hi : i < P.length := by have := h.lp; omega
  rw [bump_eq hi]
  have h2 := h.pit i hi (v := P[i] + 1) (by have := h.np _ (List.getElem_mem hi); omega)
  rw [show t - P[i] + (P[i] + 1) = t + 1 by omega] at h2
  exact h2
theorem Brd.bumpS {r : R} {P S : List Int} {t : Int} (h : Brd r P S t) {q : Int} (h0 : 0 ≤ q) (h1 : q ≤ 1) : Brd r P (bump S q) (t + 1) := by
  obtain ⟨i, rfl⟩ : ∃ i : Nat, q = i := ⟨q.toNat, by omega⟩
  have hi : i < S.length := by have := h.ls; omega
  rw [bump_eq hi]
  have h2 := h.sto i hi (v := S[i] + 1) (by have := h.ns _ (List.getElem_mem hi); omega)
  rw [show t - S[i] + (S[i] + 1) = t + 1 by omega] at h2
  exact h2
theorem lapGo_brd {r : R} (hb : r.Bd) (pl fr : Int) (hp : 0 ≤ pl ∧ pl ≤ 1) : ∀ (n : Nat) (place : Int) (P S T : List Int) (t : Int), PlaceOk r place → Brd r P S t →
    Brd r (lapGo r pl fr n place P S T).pits (lapGo r pl fr n place P S T).stores (t + n) ∧ (lapGo r pl fr n place P S T).path.length = T.length + n ∧ PlaceOk r (lapGo r pl fr n place P S T).last
  | 0, place, P, S, T, t, h1, h2 => by
    simp only [lapGo]
    exact ⟨by simpa using h2, by simp, h1⟩
  | n + 1, place, P, S, T, t, h1, h2 => by
    have hq := stepP_ok hb pl fr place hp h1
    simp only [lapGo]
    by_cases hm : stepP r pl fr place = -1
    · rw [if_pos hm]
      obtain ⟨k1, k2, k3⟩ := lapGo_brd hb pl fr hp n (stepP r pl fr place) P (bump S pl) (T ++ [stepP r pl fr place]) (t + 1) hq (h2.bumpS hp.1 hp.2)
      exact ⟨by rw [show t + ((n + 1 : Nat) : Int) = t + 1 + n by omega]; exact k1, by rw [k2]; simp; omega, k3⟩
    · rw [if_neg hm]
      have hq2 := hq
      rcases hq2 with hq2 | hq2
      · exact absurd hq2 hm
      · obtain ⟨k1, k2, k3⟩ := lapGo_brd hb pl fr hp n (stepP r pl fr place) (bump P (stepP r pl fr place)) S (T ++ [stepP r pl fr place]) (t + 1) hq (h2.bumpP hq2.1 hq2.2)
        exact ⟨by rw [show t + ((n + 1 : Nat) : Int) = t + 1 + n by omega]; exact k1, by rw [k2]; simp; omega, k3⟩
theorem lapP_brd {r : R} (hb : r.Bd) (pl : Int) (fn : Nat) (hp : 0 ≤ pl ∧ pl ≤ 1) (P S T : List Int) (t : Int) (h : Brd r P S t) (hf : fn < P.length) :
    Brd r (lapP r pl fn P S T).pits (lapP r pl fn P S T).stores t ∧ ((lapP r pl fn P S T).path.length : Int) = T.length + P[fn] ∧ PlaceOk r (lapP r pl fn P S T).last := by
  have h0 := h.np _ (List.getElem_mem hf)
  have e1 : (P.getD (fn : Int).toNat 0).toNat = P[fn].toNat := by simp [hf]
  obtain ⟨k1, k2, k3⟩ := lapGo_brd hb pl fn hp P[fn].toNat fn (P.set fn 0) S T (t - P[fn] + 0) (.inr ⟨by omega, by have := h.lp; omega⟩) (h.pit fn hf (Int.le_refl 0))
  unfold lapP
  rw [e1]
  simp only [Int.toNat_natCast]
  exact ⟨by rw [show t = t - P[fn] + 0 + ((P[fn].toNat : Nat) : Int) by omega]; exact k1, by rw [k2]; omega, k3⟩

/-! ### a move -/
def sowGo (r : R) (pl : Int) : Nat → Lap → Option (Lap × Int)
  | 0, L => if moreP r L then none else some (L, 100)
  | k + 1, L => if moreP r L then sowGo r pl k (lapP r pl L.last L.pits L.stores L.path) else some (L, 99 - k)
def sowP (r : R) (pl : Int) (fn : Int) (P S : List Int) : Option (Lap × Int) := sowGo r pl 99 (lapP r pl fn P S [])
theorem moreP_last {r : R} {L : Lap} (h : moreP r L = true) : 0 ≤ L.last := by
  simp [moreP] at h; exact h.1.2
theorem sowGo_brd {r : R} (hb : r.Bd) (pl : Int) (hp : 0 ≤ pl ∧ pl ≤ 1) {t : Int} : ∀ (k : Nat) (L L' : Lap) (n : Int), Brd r L.pits L.stores t → PlaceOk r L.last → sowGo r pl k L = some (L', n) →
    Brd r L'.pits L'.stores t ∧ PlaceOk r L'.last ∧ (L'.path.length : Int) ≤ L.path.length + k * t ∧ 1 ≤ n + k ∧ n ≤ 100
  | 0, L, L', n, h1, h2, h => by
    unfold sowGo at h
    split at h
    · simp at h
    · simp at h
      obtain ⟨rfl, rfl⟩ := h
      exact ⟨h1, h2, by simp, by omega, by omega⟩
  | k + 1, L, L', n, h1, h2, h => by
    have ht : 0 ≤ t := by have := nn_sum h1.np; have := nn_sum h1.ns; have := h1.sm; omega
    unfold sowGo at h
    split at h
    · rename_i hm
      have hl := moreP_last hm
      obtain ⟨fn, hfn⟩ : ∃ fn : Nat, L.last = fn := ⟨L.last.toNat, by omega⟩
      rw [hfn] at h
      have hf : fn < L.pits.length := by
        rcases h2 with h2 | h2
        · omega
        · have := h1.lp; omega
      obtain ⟨k1, k2, k3⟩ := lapP_brd hb pl fn hp L.pits L.stores L.path t h1 hf
      obtain ⟨j1, j2, j3, j4, j5⟩ := sowGo_brd hb pl hp k _ L' n k1 k3 h
      have hle := (h1.bp (Int.le_refl t)) _ (List.getElem_mem hf)
      refine ⟨j1, j2, ?_, by omega, j5⟩
      have : ((k + 1 : Nat) : Int) * t = k * t + t := by rw [Int.natCast_add, Int.add_mul]; simp
      omega
    · simp at h
      obtain ⟨rfl, rfl⟩ := h
      refine ⟨h1, h2, ?_, by omega, by omega⟩
      have := Int.mul_nonneg (a := ((k + 1 : Nat) : Int)) (b := t) (by omega) ht
      omega

end Go.Proofs.Ytbjgigdkbjabaaa
