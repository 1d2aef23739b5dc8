/- View: a position as the player to move sees it: the program's and the reference's functions. Each contract holds for every argument, under the premises that it states. -/
import Derived.Test.YtbjgigdkbjabaaaOwn
import Derived.Test.YtbjgigdkbjabaaaStored
import Derived.Test.YtbjgigdkbjabaaaMf
import Derived.Deep.AppendLies
import Derived.Deep.CutRange
import Derived.Test.YtbjgigdkbjabaaaMoves
namespace Go.Proofs.Ytbjgigdkbjabaaa
set_option linter.unusedSimpArgs false
set_option linter.unusedVariables false
set_option linter.unnecessarySimpa false
open Go.RowKit Go.ChangeShapes Go.WideShapes Go.ChangeAt Go.Joins

theorem slice_lo (a : Option Addr) (n m k c : Nat) (r : Int) (hr : (k : Int) = r) (hk : k < n) (hm : n - k = m) (hc : n ≤ c) (b o : Nat) (ha : a = some ⟨b, o, none⟩) (W : World) : (Instr.slice 24 (.slice a n c) (some (.int .i64 r)) none none).run Try.prog W = .ok (.slice (some ⟨b, o + k, none⟩) m (c - k)) W := by
  subst hr hm ha
  have h := run_slice_l (P := Try.prog) W 24 (some ⟨b, o, none⟩) n c (by kernel_rfl) .i64 (k : Int) (by omega) (by omega)
  have hz : (sizeOf (Try.prog.elem 24)).run Try.prog W = .ok 1 W := by kernel_rfl
  rw [h, hz]
  have hne : ¬ c - k = 0 := by omega
  have hne2 : ¬ c = k := by omega
  by_cases hk0 : k = 0 <;> simp [Result.andThen, sliced, Addr.add, hne, hne2, hk0] <;> omega
theorem slice_hi (a : Option Addr) (n m c : Nat) (r : Int) (hr : (m : Int) = r) (hk : m ≤ n) (hc : n ≤ c) (b o : Nat) (ha : a = some ⟨b, o, none⟩) (W : World) : (Instr.slice 24 (.slice a n c) none (some (.int .i64 r)) none).run Try.prog W = .ok (.slice (some ⟨b, o, none⟩) m c) W := by
  subst hr ha
  have h := run_slice_h (P := Try.prog) W 24 (some ⟨b, o, none⟩) n c (by kernel_rfl) .i64 (m : Int) (by omega) (by omega)
  have hz : (sizeOf (Try.prog.elem 24)).run Try.prog W = .ok 1 W := by kernel_rfl
  rw [h, hz]
  simp [Result.andThen, sliced, Addr.add]

theorem addr_add (b o j : Nat) : (⟨b, o, none⟩ : Addr).add j = ⟨b, o + j, none⟩ := by
  by_cases h : j = 0 <;> simp [Addr.add, h]
theorem getElem?_front {α : Type} {l m : List α} {j : Nat} {u : α} (h : l[j]? = some u) : (l ++ m)[j]? = some u := by
  obtain ⟨hj, rfl⟩ := List.getElem?_eq_some_iff.1 h
  rw [List.getElem?_append_left hj]; exact List.getElem?_eq_getElem hj


/-! ### Turn: the turned board: each step of a move leads to the same on it. Each fact holds under the premises that it states. -/
/-- the same place on the turned board; a store stays -/
def sg (K q : Int) : Int := if q < 0 then q else if q < K then q + K else q - K
theorem sg_range {K q : Int} (h0 : 0 ≤ q) (h1 : q < 2 * K) : 0 ≤ sg K q ∧ sg K q < 2 * K := by
  unfold sg; repeat' split
  all_goals omega
theorem sg_sg {K q : Int} (h0 : 0 ≤ q) (h1 : q < 2 * K) : sg K (sg K q) = q := by
  unfold sg; repeat' split
  all_goals omega
theorem sg_inj {K q p : Int} (h0 : 0 ≤ q) (h1 : q < 2 * K) (h2 : 0 ≤ p) (h3 : p < 2 * K) (h : sg K q = sg K p) : q = p := by
  rw [← sg_sg h0 h1, h, sg_sg h2 h3]
theorem sg_neg {K q : Int} (hK : 0 ≤ K) (h1 : q < 2 * K) : sg K q < 0 ↔ q < 0 := by
  unfold sg; repeat' split
  all_goals omega
/-- one board is the other one, turned -/
structure Rt (K : Int) (P Q : List Int) : Prop where
  lp : (P.length : Int) = 2 * K
  lq : (Q.length : Int) = 2 * K
  at_ : ∀ q : Int, 0 ≤ q → q < 2 * K → Q.getD (sg K q).toNat 0 = P.getD q.toNat 0
theorem Rt.symm {K : Int} {P Q : List Int} (h : Rt K P Q) : Rt K Q P :=
  ⟨h.lq, h.lp, fun q h0 h1 => by
    obtain ⟨a, b⟩ := sg_range h0 h1
    have := h.at_ (sg K q) a b
    rw [sg_sg h0 h1] at this
    exact this.symm⟩
theorem Rt.set {K : Int} {P Q : List Int} (h : Rt K P Q) {q : Int} (h0 : 0 ≤ q) (h1 : q < 2 * K) (v : Int) : Rt K (P.set q.toNat v) (Q.set (sg K q).toNat v) := by
  refine ⟨by simpa using h.lp, by simpa using h.lq, fun p p0 p1 => ?_⟩
  obtain ⟨a, b⟩ := sg_range h0 h1
  obtain ⟨c, d⟩ := sg_range p0 p1
  have lp := h.lp
  have lq := h.lq
  by_cases e : p = q
  · subst e
    have e1 : p.toNat < P.length := by omega
    have e2 : (sg K p).toNat < Q.length := by omega
    simp [List.getD_eq_getElem?_getD, e1, e2]
  · have e1 : ¬ (q.toNat = p.toNat) := by omega
    have e2 : ¬ ((sg K q).toNat = (sg K p).toNat) := fun e' => e (sg_inj p0 p1 h0 h1 (by omega))
    have := h.at_ p p0 p1
    simp only [List.getD_eq_getElem?_getD] at this ⊢
    rw [List.getElem?_set_ne e1, List.getElem?_set_ne e2]
    exact this
/-- stores, turned -/
structure St (S T : List Int) : Prop where
  ls : S.length = 2
  lt : T.length = 2
  a : T.getD 0 0 = S.getD 1 0
  b : T.getD 1 0 = S.getD 0 0
theorem St.symm {S T : List Int} (h : St S T) : St T S := ⟨h.lt, h.ls, h.b.symm, h.a.symm⟩
theorem St.at {S T : List Int} (h : St S T) {pl : Int} (h0 : 0 ≤ pl) (h1 : pl ≤ 1) : T.getD (1 - pl).toNat 0 = S.getD pl.toNat 0 := by
  rcases (show pl = 0 ∨ pl = 1 by omega) with rfl | rfl
  · exact h.b
  · exact h.a
theorem St.set {S T : List Int} (h : St S T) {pl : Int} (h0 : 0 ≤ pl) (h1 : pl ≤ 1) (v : Int) : St (S.set pl.toNat v) (T.set (1 - pl).toNat v) := by
  obtain ⟨ls, lt, a, b⟩ := h
  match S, ls with
  | [s0, s1], _ =>
    match T, lt with
    | [t0, t1], _ =>
      simp at a b
      subst a b
      rcases (show pl = 0 ∨ pl = 1 by omega) with rfl | rfl
      · exact ⟨rfl, rfl, rfl, rfl⟩
      · exact ⟨rfl, rfl, rfl, rfl⟩

/-! ### sowing -/
theorem owner_eq {K q : Int} (hK : 2 ≤ K) (h0 : 0 ≤ q) (h1 : q < 2 * K) : q / K = if q < K then 0 else 1 := by
  split
  · exact Int.ediv_eq_zero_of_lt h0 (by omega)
  · have h := Int.ediv_eq_zero_of_lt (a := q - K) (b := K) (by omega) (by omega)
    have e : q = (q - K) + 1 * K := by omega
    rw [e, Int.add_mul_ediv_right _ _ (by omega), h]; rfl
theorem owner_sg {K q : Int} (hK : 2 ≤ K) (h0 : 0 ≤ q) (h1 : q < 2 * K) : sg K q / K = 1 - q / K := by
  obtain ⟨a, b⟩ := sg_range h0 h1
  rw [owner_eq hK a b, owner_eq hK h0 h1]
  unfold sg; repeat' split
  all_goals omega
theorem start_eq {K pl : Int} (hK : 2 ≤ K) (h0 : 0 ≤ pl) (h1 : pl ≤ 1) : ((pl + 1) * K) % (2 * K) = if pl = 0 then K else 0 := by
  rcases (show pl = 0 ∨ pl = 1 by omega) with rfl | rfl
  · rw [if_pos rfl, show (0 + 1) * K = K by omega]
    exact Int.emod_eq_of_lt (by omega) (by omega)
  · rw [if_neg (by omega), show (1 + 1) * K = 2 * K by omega, Int.emod_self]
theorem nextP_0 {r : R} (hK : 2 ≤ r.pits) {q : Int} (q0 : 0 ≤ q) (q1 : q < 2 * r.pits) : nextP r 0 q = if r.stores = true ∧ q = r.pits - 1 then -1 else if q = 2 * r.pits - 1 then 0 else q + 1 := by
  unfold nextP
  rw [if_neg (by omega), succ_mod hK q0 q1, show (0 + 1) * r.pits - 1 = r.pits - 1 by omega]
theorem nextP_1 {r : R} (hK : 2 ≤ r.pits) {q : Int} (q0 : 0 ≤ q) (q1 : q < 2 * r.pits) : nextP r 1 q = if r.stores = true ∧ q = 2 * r.pits - 1 then -1 else if q = 2 * r.pits - 1 then 0 else q + 1 := by
  unfold nextP
  rw [if_neg (by omega), succ_mod hK q0 q1, show (1 + 1) * r.pits - 1 = 2 * r.pits - 1 by omega]
theorem sg_lo {K q : Int} (h0 : 0 ≤ q) (h1 : q < K) : sg K q = q + K := by unfold sg; rw [if_neg (by omega), if_pos h1]
theorem sg_hi {K q : Int} (h0 : 0 ≤ q) (h1 : K ≤ q) : sg K q = q - K := by unfold sg; rw [if_neg (by omega), if_neg (by omega)]
theorem sg_st (K : Int) : sg K (-1) = -1 := by unfold sg; simp
theorem nextP_sg0 {r : R} (hK : 2 ≤ r.pits) {q : Int} (q0 : 0 ≤ q) (q1 : q < 2 * r.pits) : nextP r 1 (sg r.pits q) = sg r.pits (nextP r 0 q) := by
  obtain ⟨a, b⟩ := sg_range q0 q1
  rw [nextP_0 hK q0 q1, nextP_1 hK a b]
  by_cases h : q < r.pits
  · rw [sg_lo q0 h]
    by_cases e : q = r.pits - 1
    · by_cases hs : r.stores = true
      · rw [if_pos ⟨hs, by omega⟩, if_pos ⟨hs, e⟩, sg_st]
      · rw [if_neg (fun h => hs h.1), if_pos (by omega), if_neg (fun h => hs h.1), if_neg (by omega), sg_hi (by omega) (by omega)]; omega
    · rw [if_neg (fun h => e (by omega)), if_neg (by omega), if_neg (fun h => e h.2), if_neg (by omega), sg_lo (by omega) (by omega)]; omega
  · rw [sg_hi q0 (by omega)]
    rw [if_neg (fun h => by omega), if_neg (by omega), if_neg (fun h => by omega)]
    by_cases e : q = 2 * r.pits - 1
    · rw [if_pos e, sg_lo (by omega) (by omega)]; omega
    · rw [if_neg e, sg_hi (by omega) (by omega)]; omega
theorem nextP_sg1 {r : R} (hK : 2 ≤ r.pits) {q : Int} (q0 : 0 ≤ q) (q1 : q < 2 * r.pits) : nextP r 0 (sg r.pits q) = sg r.pits (nextP r 1 q) := by
  obtain ⟨a, b⟩ := sg_range q0 q1
  rw [nextP_1 hK q0 q1, nextP_0 hK a b]
  by_cases h : q < r.pits
  · rw [sg_lo q0 h]
    have A : ¬ (r.stores = true ∧ q + r.pits = r.pits - 1) := fun h => by omega
    have B : ¬ (r.stores = true ∧ q = 2 * r.pits - 1) := fun h => by omega
    have C : ¬ q = 2 * r.pits - 1 := by omega
    rw [if_neg A, if_neg B, if_neg C]
    by_cases e : q = r.pits - 1
    · have D : q + r.pits = 2 * r.pits - 1 := by omega
      rw [if_pos D, sg_hi (by omega) (by omega)]; omega
    · have D : ¬ q + r.pits = 2 * r.pits - 1 := by omega
      rw [if_neg D, sg_lo (by omega) (by omega)]; omega
  · rw [sg_hi q0 (by omega)]
    by_cases e : q = 2 * r.pits - 1
    · by_cases hs : r.stores = true
      · rw [if_pos ⟨hs, by omega⟩, if_pos ⟨hs, e⟩, sg_st]
      · rw [if_neg (fun h => hs h.1), if_neg (by omega), if_neg (fun h => hs h.1), if_pos e, sg_lo (by omega) (by omega)]; omega
    · rw [if_neg (fun h => e (by omega)), if_neg (by omega), if_neg (fun h => e h.2), if_neg e, sg_hi (by omega) (by omega)]; omega
theorem nextP_sg {r : R} (hb : r.Bd) {pl q : Int} (h0 : 0 ≤ pl) (h1 : pl ≤ 1) (hq : PlaceOk r q) : nextP r (1 - pl) (sg r.pits q) = sg r.pits (nextP r pl q) := by
  have hK := hb.lo
  rcases hq with rfl | ⟨q0, q1⟩
  · unfold nextP
    rw [start_eq hK h0 h1, start_eq hK (by omega) (by omega), sg_st, if_pos rfl, if_pos rfl]
    rcases (show pl = 0 ∨ pl = 1 by omega) with rfl | rfl
    · rw [if_neg (by omega), if_pos rfl, sg_hi (by omega) (by omega)]; omega
    · rw [if_pos (by omega), if_neg (by omega), sg_lo (by omega) (by omega)]; omega
  · rcases (show pl = 0 ∨ pl = 1 by omega) with rfl | rfl
    · exact nextP_sg0 hK q0 q1
    · exact nextP_sg1 hK q0 q1
theorem place_inj {r : R} (hb : r.Bd) {q p : Int} (hq : PlaceOk r q) (hp : PlaceOk r p) (h : sg r.pits q = sg r.pits p) : q = p := by
  have := hb.lo
  rcases hq with rfl | ⟨a, b⟩ <;> rcases hp with rfl | ⟨c, d⟩
  · rfl
  · obtain ⟨e, f⟩ := sg_range c d
    rw [show sg r.pits (-1) = -1 by unfold sg; simp] at h; omega
  · obtain ⟨e, f⟩ := sg_range a b
    rw [show sg r.pits (-1) = -1 by unfold sg; simp] at h; omega
  · exact sg_inj a b c d h
theorem stepP_sg {r : R} (hb : r.Bd) {pl f q : Int} (h0 : 0 ≤ pl) (h1 : pl ≤ 1) (hf : PlaceOk r f) (hq : PlaceOk r q) : stepP r (1 - pl) (sg r.pits f) (sg r.pits q) = sg r.pits (stepP r pl f q) := by
  have hn := nextP_ok hb pl q ⟨h0, h1⟩ hq
  unfold stepP
  rw [nextP_sg hb h0 h1 hq]
  by_cases h : r.skip = true ∧ nextP r pl q = f
  · rw [if_pos h, if_pos ⟨h.1, by rw [h.2]⟩, nextP_sg hb h0 h1 hn]
  · rw [if_neg h, if_neg (fun e => h ⟨e.1, place_inj hb hn hf e.2⟩)]
structure LR (K : Int) (L M : Lap) : Prop where
  pits : Rt K L.pits M.pits
  stores : St L.stores M.stores
  last : M.last = sg K L.last
theorem Rt.bump {K : Int} {P Q : List Int} (h : Rt K P Q) {q : Int} (h0 : 0 ≤ q) (h1 : q < 2 * K) : Rt K (bump P q) (bump Q (sg K q)) := by
  unfold Go.Proofs.Ytbjgigdkbjabaaa.bump
  rw [h.at_ q h0 h1]
  exact h.set h0 h1 _
theorem St.bump {S T : List Int} (h : St S T) {pl : Int} (h0 : 0 ≤ pl) (h1 : pl ≤ 1) : St (bump S pl) (bump T (1 - pl)) := by
  unfold Go.Proofs.Ytbjgigdkbjabaaa.bump
  rw [h.at h0 h1]
  exact h.set h0 h1 _
theorem lapGo_sg {r : R} (hb : r.Bd) {pl f : Int} (h0 : 0 ≤ pl) (h1 : pl ≤ 1) (hf : PlaceOk r f) : ∀ (n : Nat) (q : Int) (P Q S T U V : List Int), PlaceOk r q → Rt r.pits P Q → St S T →
    LR r.pits (lapGo r pl f n q P S U) (lapGo r (1 - pl) (sg r.pits f) n (sg r.pits q) Q T V)
  | 0, q, P, Q, S, T, U, V, hq, hp, hs => ⟨hp, hs, rfl⟩
  | n + 1, q, P, Q, S, T, U, V, hq, hp, hs => by
    have hst := stepP_ok hb pl f q ⟨h0, h1⟩ hq
    simp only [lapGo]
    rw [stepP_sg hb h0 h1 hf hq]
    by_cases e : stepP r pl f q = -1
    · have e2 : sg r.pits (stepP r pl f q) = -1 := by rw [e]; unfold sg; simp
      rw [if_pos e, if_pos e2]
      exact lapGo_sg hb h0 h1 hf n _ _ _ _ _ _ _ hst hp (hs.bump h0 h1)
    · obtain ⟨a, b⟩ : 0 ≤ stepP r pl f q ∧ stepP r pl f q < 2 * r.pits := by
        rcases hst with h | h
        · exact absurd h e
        · exact h
      have e2 : ¬ sg r.pits (stepP r pl f q) = -1 := by have := (sg_range a b).1; omega
      rw [if_neg e, if_neg e2]
      exact lapGo_sg hb h0 h1 hf n _ _ _ _ _ _ _ hst (hp.bump a b) hs
theorem lapP_sg {r : R} (hb : r.Bd) {pl f : Int} (h0 : 0 ≤ pl) (h1 : pl ≤ 1) (f0 : 0 ≤ f) (f1 : f < 2 * r.pits) {P Q S T : List Int} (U V : List Int) (hp : Rt r.pits P Q) (hs : St S T) :
    LR r.pits (lapP r pl f P S U) (lapP r (1 - pl) (sg r.pits f) Q T V) := by
  unfold lapP
  rw [hp.at_ f f0 f1]
  exact lapGo_sg hb h0 h1 (.inr ⟨f0, f1⟩) _ _ _ _ _ _ _ _ (.inr ⟨f0, f1⟩) (hp.set f0 f1 0) hs
theorem lapGo_place {r : R} (hb : r.Bd) {pl f : Int} (h0 : 0 ≤ pl) (h1 : pl ≤ 1) : ∀ (n : Nat) (q : Int) (P S U : List Int), PlaceOk r q → PlaceOk r (lapGo r pl f n q P S U).last
  | 0, q, P, S, U, hq => hq
  | n + 1, q, P, S, U, hq => by
    have hst := stepP_ok hb pl f q ⟨h0, h1⟩ hq
    simp only [lapGo]
    split
    · exact lapGo_place hb h0 h1 n _ _ _ _ hst
    · exact lapGo_place hb h0 h1 n _ _ _ _ hst
theorem moreP_sg {r : R} (hb : r.Bd) {L M : Lap} (h : LR r.pits L M) (hl : PlaceOk r L.last) : moreP r M = moreP r L := by
  have := hb.lo
  unfold moreP
  rw [h.last]
  rcases hl with e | ⟨a, b⟩
  · rw [e, show sg r.pits (-1) = -1 by unfold sg; simp]
    simp
  · rw [h.pits.at_ _ a b]
    have := (sg_range a b).1
    rw [decide_eq_true this, decide_eq_true a]
theorem sowGo_sg {r : R} (hb : r.Bd) {pl : Int} (h0 : 0 ≤ pl) (h1 : pl ≤ 1) : ∀ (k : Nat) (L M : Lap), LR r.pits L M → PlaceOk r L.last →
    (sowGo r pl k L = none ∧ sowGo r (1 - pl) k M = none) ∨ ∃ L' M' n, sowGo r pl k L = some (L', n) ∧ sowGo r (1 - pl) k M = some (M', n) ∧ LR r.pits L' M' ∧ PlaceOk r L'.last
  | 0, L, M, h, hl => by
    unfold sowGo
    rw [moreP_sg hb h hl]
    split
    · exact .inl ⟨rfl, rfl⟩
    · exact .inr ⟨L, M, 100, rfl, rfl, h, hl⟩
  | k + 1, L, M, h, hl => by
    unfold sowGo
    rw [moreP_sg hb h hl]
    split
    · rename_i hm
      have l0 := moreP_last hm
      have l1 : L.last < 2 * r.pits := by rcases hl with e | e; omega; exact e.2
      rw [h.last]
      exact sowGo_sg hb h0 h1 k _ _ (lapP_sg hb h0 h1 l0 l1 _ _ h.pits h.stores) (by unfold lapP; exact lapGo_place hb h0 h1 _ _ _ _ _ (.inr ⟨l0, l1⟩))
    · exact .inr ⟨L, M, 99 - k, rfl, rfl, h, hl⟩
theorem sowP_sg {r : R} (hb : r.Bd) {pl f : Int} (h0 : 0 ≤ pl) (h1 : pl ≤ 1) (f0 : 0 ≤ f) (f1 : f < 2 * r.pits) {P Q S T : List Int} (hp : Rt r.pits P Q) (hs : St S T) :
    (sowP r pl f P S = none ∧ sowP r (1 - pl) (sg r.pits f) Q T = none) ∨ ∃ L M n, sowP r pl f P S = some (L, n) ∧ sowP r (1 - pl) (sg r.pits f) Q T = some (M, n) ∧ LR r.pits L M ∧ PlaceOk r L.last := by
  unfold sowP
  exact sowGo_sg hb h0 h1 99 _ _ (lapP_sg hb h0 h1 f0 f1 [] [] hp hs) (by unfold lapP; exact lapGo_place hb h0 h1 _ _ _ _ _ (.inr ⟨f0, f1⟩))

/-! ### captures -/
def inP (K : Int) (l : List Int) : Prop := ∀ k ∈ l, 0 ≤ k ∧ k < 2 * K
theorem gainP_sg {K : Int} {P Q : List Int} (h : Rt K P Q) : ∀ l : List Int, inP K l → gainP Q (l.map (sg K)) = gainP P l
  | [], _ => rfl
  | k :: l, hl => by
    obtain ⟨a, b⟩ := hl k (by simp)
    rw [List.map_cons, gainP_cons, gainP_cons, h.at_ k a b, gainP_sg h l (fun j hj => hl j (by simp [hj]))]
theorem filter_sg {K : Int} (hK : 2 ≤ K) {pl : Int} : ∀ l : List Int, inP K l → (l.map (sg K)).filter (fun k => ¬ k / K = 1 - pl) = (l.filter (fun k => ¬ k / K = pl)).map (sg K)
  | [], _ => rfl
  | k :: l, hl => by
    obtain ⟨a, b⟩ := hl k (by simp)
    have ih := filter_sg (pl := pl) hK l (fun j hj => hl j (by simp [hj]))
    have ho := owner_sg hK a b
    by_cases e : k / K = pl
    · have e2 : sg K k / K = 1 - pl := by rw [ho, e]
      simp only [List.map_cons, List.filter_cons, e, e2]
      simpa using ih
    · have e2 : ¬ sg K k / K = 1 - pl := by rw [ho]; omega
      simp only [List.map_cons, List.filter_cons, e, e2]
      simpa using ih
theorem goneP_sg {r : R} (hK : 2 ≤ r.pits) {P Q : List Int} (h : Rt r.pits P Q) {pl : Int} {l : List Int} (hl : inP r.pits l) : goneP r (1 - pl) Q (l.map (sg r.pits)) = goneP r pl P l := by
  unfold goneP
  rw [filter_sg hK l hl]
  exact gainP_sg h _ (fun k hk => hl k (List.mem_filter.1 hk).1)
theorem sideP_sg {r : R} (hK : 2 ≤ r.pits) {P Q : List Int} (h : Rt r.pits P Q) {pl : Int} (h0 : 0 ≤ pl) (h1 : pl ≤ 1) : sideP r Q (1 - pl) = sideP r P pl := by
  unfold sideP
  congr 1
  have lp := h.lp
  have lq := h.lq
  obtain ⟨K, hKn⟩ : ∃ K : Nat, r.pits = K := ⟨r.pits.toNat, by omega⟩
  rcases (show pl = 0 ∨ pl = 1 by omega) with rfl | rfl
  · have e1 : ((1 - 0) * r.pits).toNat = K := by omega
    have e2 : ((0 : Int) * r.pits).toNat = 0 := by omega
    rw [e1, e2]
    refine List.ext_getElem (by simp; omega) (fun i i1 i2 => ?_)
    have hi : i < K := by simp at i2; omega
    have hA := h.at_ (i : Int) (by omega) (by omega)
    rw [sg_lo (by omega) (by omega), show ((i : Int) + r.pits).toNat = K + i by omega] at hA
    rw [List.getElem_take, List.getElem_drop, List.getElem_take, List.getElem_drop]
    have a1 : K + i < Q.length := by omega
    have a2 : i < P.length := by omega
    simpa [List.getD_eq_getElem?_getD, a1, a2] using hA
  · have e1 : ((1 - 1) * r.pits).toNat = 0 := by omega
    have e2 : ((1 : Int) * r.pits).toNat = K := by omega
    rw [e1, e2]
    refine List.ext_getElem (by simp; omega) (fun i i1 i2 => ?_)
    have hi : i < K := by simp at i2; omega
    have hA := h.at_ ((K + i : Nat) : Int) (by omega) (by omega)
    rw [sg_hi (by omega) (by omega), show (((K + i : Nat) : Int) - r.pits).toNat = i by omega, Int.toNat_natCast] at hA
    rw [List.getElem_take, List.getElem_drop, List.getElem_take, List.getElem_drop]
    have a1 : i < Q.length := by omega
    have a2 : K + i < P.length := by omega
    simpa [List.getD_eq_getElem?_getD, a1, a2] using hA
theorem twoGo_lo {r : R} (hK : 2 ≤ r.pits) {K : Nat} (hKn : r.pits = K) {P Q : List Int} (h : Rt r.pits P Q) : ∀ j : Nat, j ≤ K → (twoGo r 1 Q j) = (twoGo r 0 P (K + j)).map (sg r.pits)
  | 0, _ => by
    obtain ⟨k, rfl⟩ : ∃ k, K = k + 1 := ⟨K - 1, by omega⟩
    have ho := owner_eq hK (q := (k : Int)) (by omega) (by omega)
    rw [if_pos (by omega)] at ho
    simp only [Nat.add_zero, twoGo]
    rw [if_neg (fun e => e.1 ho)]
    rfl
  | j + 1, hj => by
    have ih := twoGo_lo hK hKn h j (by omega)
    have o1 := owner_eq hK (q := (j : Int)) (by omega) (by omega)
    rw [if_pos (by omega)] at o1
    have o2 := owner_eq hK (q := ((K + j : Nat) : Int)) (by omega) (by omega)
    rw [if_neg (by omega)] at o2
    have hA := h.at_ ((K + j : Nat) : Int) (by omega) (by omega)
    have hs : sg r.pits ((K + j : Nat) : Int) = (j : Int) := by rw [sg_hi (by omega) (by omega)]; omega
    rw [hs, Int.toNat_natCast, Int.toNat_natCast] at hA
    show twoGo r 1 Q (j + 1) = (twoGo r 0 P ((K + j) + 1)).map (sg r.pits)
    simp only [twoGo]
    rw [hA, o1, o2]
    by_cases e : inB (P.getD (K + j) 0) 2 3 = true
    · rw [if_pos ⟨by omega, e⟩, if_pos ⟨by omega, e⟩, List.map_cons, hs, ih]
    · rw [if_neg (fun x => e x.2), if_neg (fun x => e x.2)]; rfl
theorem twoGo_hi {r : R} (hK : 2 ≤ r.pits) {K : Nat} (hKn : r.pits = K) {P Q : List Int} (h : Rt r.pits P Q) : ∀ j : Nat, j ≤ K → (twoGo r 0 Q (K + j)) = (twoGo r 1 P j).map (sg r.pits)
  | 0, _ => by
    obtain ⟨k, rfl⟩ : ∃ k, K = k + 1 := ⟨K - 1, by omega⟩
    have ho := owner_eq hK (q := (k : Int)) (by omega) (by omega)
    rw [if_pos (by omega)] at ho
    simp only [Nat.add_zero, twoGo]
    rw [if_neg (fun e => e.1 ho)]
    rfl
  | j + 1, hj => by
    have ih := twoGo_hi hK hKn h j (by omega)
    have o1 := owner_eq hK (q := (j : Int)) (by omega) (by omega)
    rw [if_pos (by omega)] at o1
    have o2 := owner_eq hK (q := ((K + j : Nat) : Int)) (by omega) (by omega)
    rw [if_neg (by omega)] at o2
    have hA := h.at_ (j : Int) (by omega) (by omega)
    have hs : sg r.pits (j : Int) = ((K + j : Nat) : Int) := by rw [sg_lo (by omega) (by omega)]; omega
    rw [hs, Int.toNat_natCast, Int.toNat_natCast] at hA
    show twoGo r 0 Q ((K + j) + 1) = (twoGo r 1 P (j + 1)).map (sg r.pits)
    simp only [twoGo]
    rw [hA, o1, o2]
    by_cases e : inB (P.getD j 0) 2 3 = true
    · rw [if_pos ⟨by omega, e⟩, if_pos ⟨by omega, e⟩, List.map_cons, hs, ih]
    · rw [if_neg (fun x => e x.2), if_neg (fun x => e x.2)]; rfl
theorem twoGo_sg {r : R} (hb : r.Bd) {P Q : List Int} (h : Rt r.pits P Q) {pl q : Int} (h0 : 0 ≤ pl) (h1 : pl ≤ 1) (q0 : 0 ≤ q) (q1 : q < 2 * r.pits) :
    twoGo r (1 - pl) Q ((sg r.pits q).toNat + 1) = (twoGo r pl P (q.toNat + 1)).map (sg r.pits) := by
  have hK := hb.lo
  obtain ⟨K, hKn⟩ : ∃ K : Nat, r.pits = K := ⟨r.pits.toNat, by omega⟩
  have own : ∀ (pl' : Int) (X : List Int) (j : Nat), (j : Int) / r.pits = pl' → twoGo r pl' X (j + 1) = [] := fun pl' X j e => by
    simp only [twoGo]; rw [if_neg (fun x => x.1 e)]
  by_cases e : q / r.pits = pl
  · obtain ⟨a, b⟩ := sg_range q0 q1
    rw [own pl P q.toNat (by rw [Int.toNat_of_nonneg q0]; exact e), own (1 - pl) Q (sg r.pits q).toNat (by rw [Int.toNat_of_nonneg a, owner_sg hK q0 q1, e])]
    rfl
  · rw [owner_eq hK q0 q1] at e
    rcases (show pl = 0 ∨ pl = 1 by omega) with rfl | rfl
    · have hq : r.pits ≤ q := by
        rcases Int.lt_or_le q r.pits with h | h
        · rw [if_pos h] at e; exact absurd rfl e
        · exact h
      rw [sg_hi q0 hq]
      have := twoGo_lo hK hKn h ((q - r.pits).toNat + 1) (by omega)
      rw [show K + ((q - r.pits).toNat + 1) = q.toNat + 1 by omega] at this
      exact this
    · have hq : q < r.pits := by
        rcases Int.lt_or_le q r.pits with h | h
        · exact h
        · rw [if_neg (by omega)] at e; exact absurd rfl e
      rw [sg_lo q0 hq]
      have := twoGo_hi hK hKn h (q.toNat + 1) (by omega)
      rw [show K + (q.toNat + 1) = (q + r.pits).toNat + 1 by omega] at this
      exact this
theorem rawP_sg {r : R} (hb : r.Bd) {P Q : List Int} (h : Rt r.pits P Q) {pl q : Int} (h0 : 0 ≤ pl) (h1 : pl ≤ 1) (hq : PlaceOk r q) :
    rawP r (1 - pl) Q (sg r.pits q) = (rawP r pl P q).map (sg r.pits) := by
  have hK := hb.lo
  rcases hq with rfl | ⟨q0, q1⟩
  · rw [sg_st]; unfold rawP; rw [if_pos (by omega), if_pos (by omega)]; rfl
  · obtain ⟨a, b⟩ := sg_range q0 q1
    have ho2 : 2 * r.pits - 1 - sg r.pits q = sg r.pits (2 * r.pits - 1 - q) := by
      by_cases hlt : q < r.pits
      · rw [sg_lo q0 hlt, sg_hi (by omega) (by omega)]; omega
      · rw [sg_hi q0 (by omega), sg_lo (by omega) (by omega)]; omega
    have hA := h.at_ q q0 q1
    have hB := h.at_ (2 * r.pits - 1 - q) (by omega) (by omega)
    have hO := owner_sg hK q0 q1
    unfold rawP
    rw [if_neg (show ¬ sg r.pits q < 0 by omega), if_neg (show ¬ q < 0 by omega), hO, hA, ho2, hB]
    by_cases c1 : r.capture = 1
    · rw [if_pos c1, if_pos c1]; exact twoGo_sg hb h h0 h1 q0 q1
    · rw [if_neg c1, if_neg c1]
      by_cases c2 : r.capture = 2
      · rw [if_pos c2, if_pos c2]
        by_cases c : q / r.pits = pl ∧ P.getD q.toNat 0 = 1 ∧ 0 < P.getD (2 * r.pits - 1 - q).toNat 0
        · rw [if_pos c, if_pos ⟨by omega, c.2⟩]; rfl
        · rw [if_neg c, if_neg (fun x => c ⟨by omega, x.2⟩)]; rfl
      · rw [if_neg c2, if_neg c2]
        by_cases c3 : r.capture = 3
        · rw [if_pos c3, if_pos c3]
          by_cases c : ¬ q / r.pits = pl ∧ P.getD q.toNat 0 % 2 = 0
          · rw [if_pos c, if_pos ⟨by omega, c.2⟩]; rfl
          · rw [if_neg c, if_neg (fun x => c ⟨by omega, x.2⟩)]; rfl
        · rw [if_neg c3, if_neg c3]; rfl
theorem rawP_in {r : R} (hb : r.Bd) {P : List Int} (pl : Int) {q : Int} (hl : (P.length : Int) = 2 * r.pits) (hq : PlaceOk r q) : inP r.pits (rawP r pl P q) := fun k hk => by
  have := (rawP_ok hb pl P q hl hq).1.1 k hk
  omega
theorem slamP_sg {r : R} (hb : r.Bd) {P Q : List Int} (h : Rt r.pits P Q) {pl q : Int} (h0 : 0 ≤ pl) (h1 : pl ≤ 1) (hq : PlaceOk r q) : slamP r (1 - pl) Q (sg r.pits q) = slamP r pl P q := by
  unfold slamP
  rw [rawP_sg hb h h0 h1 hq, goneP_sg hb.lo h (rawP_in hb pl h.lp hq), sideP_sg hb.lo h (pl := 1 - pl) (by omega) (by omega)]
theorem capP_sg {r : R} (hb : r.Bd) {P Q : List Int} (h : Rt r.pits P Q) {pl q : Int} (h0 : 0 ≤ pl) (h1 : pl ≤ 1) (hq : PlaceOk r q) : capP r (1 - pl) Q (sg r.pits q) = (capP r pl P q).map (sg r.pits) := by
  unfold capP
  rw [slamP_sg hb h h0 h1 hq, rawP_sg hb h h0 h1 hq]
  split <;> rfl
theorem zeroP_sg {K : Int} : ∀ (l : List Int) {P Q : List Int}, Rt K P Q → inP K l → Rt K (zeroP P l) (zeroP Q (l.map (sg K)))
  | [], P, Q, h, _ => h
  | k :: l, P, Q, h, hl => by
    obtain ⟨a, b⟩ := hl k (by simp)
    exact zeroP_sg l (h.set a b 0) (fun j hj => hl j (by simp [hj]))
theorem takeP_sg {r : R} (hb : r.Bd) {P Q S T : List Int} (h : Rt r.pits P Q) (hs : St S T) {pl q : Int} (h0 : 0 ≤ pl) (h1 : pl ≤ 1) (hq : PlaceOk r q) :
    Rt r.pits (takeP r pl P S q).1 (takeP r (1 - pl) Q T (sg r.pits q)).1 ∧ St (takeP r pl P S q).2 (takeP r (1 - pl) Q T (sg r.pits q)).2 := by
  have hin : inP r.pits (capP r pl P q) := fun k hk => by
    have := (capP_ok hb pl P q h.lp hq).1.1 k hk
    have := h.lp
    omega
  unfold takeP
  rw [capP_sg hb h h0 h1 hq, gainP_sg h _ hin, hs.at h0 h1]
  exact ⟨zeroP_sg _ h hin, hs.set h0 h1 _⟩

/-! ### moves -/
/-- one position is the other one, turned -/
structure PT (r : R) (p q : P) : Prop where
  pits : Rt r.pits p.pits q.pits
  stores : St p.stores q.stores
  player : q.player = 1 - p.player
theorem PT.symm {r : R} {p q : P} (h : PT r p q) : PT r q p := ⟨h.pits.symm, h.stores.symm, by rw [h.player]; omega⟩
theorem rt_mem {K : Int} {P Q : List Int} (h : Rt K P Q) : ∀ x ∈ Q, x ∈ P := fun x hx => by
  obtain ⟨i, hi, rfl⟩ := List.mem_iff_getElem.1 hx
  have lp := h.lp
  have lq := h.lq
  obtain ⟨a, b⟩ := sg_range (K := K) (q := (i : Int)) (by omega) (by omega)
  have := h.symm.at_ (i : Int) (by omega) (by omega)
  have e1 : (sg K (i : Int)).toNat < P.length := by omega
  simp [List.getD_eq_getElem?_getD, e1, hi] at this
  rw [← this]
  exact List.getElem_mem e1
theorem sum_split (P : List Int) {r : R} (hl : (P.length : Int) = 2 * r.pits) (hK : 2 ≤ r.pits) : P.sum = sideP r P 0 + sideP r P 1 := by
  obtain ⟨K, hKn⟩ : ∃ K : Nat, r.pits = K := ⟨r.pits.toNat, by omega⟩
  unfold sideP
  rw [show ((0 : Int) * r.pits).toNat = 0 by omega, show ((1 : Int) * r.pits).toNat = K by omega, show r.pits.toNat = K by omega, List.drop_zero]
  have e : (P.drop K).take K = P.drop K := List.take_of_length_le (by simp; omega)
  rw [e, ← List.sum_append, List.take_append_drop]
theorem rt_sum {r : R} (hK : 2 ≤ r.pits) {P Q : List Int} (h : Rt r.pits P Q) : Q.sum = P.sum := by
  rw [sum_split Q h.lq hK, sum_split P h.lp hK]
  have a := sideP_sg hK h (pl := 0) (by omega) (by omega)
  have b := sideP_sg hK h (pl := 1) (by omega) (by omega)
  simp only [Int.sub_zero, Int.sub_self] at a b
  omega
theorem st_sum {S T : List Int} (h : St S T) : T.sum = S.sum ∧ ∀ x ∈ T, x ∈ S := by
  obtain ⟨ls, lt, a, b⟩ := h
  match S, ls with
  | [s0, s1], _ =>
    match T, lt with
    | [t0, t1], _ =>
      simp at a b
      subst a b
      refine ⟨by simp; omega, fun x hx => ?_⟩
      simp at hx ⊢
      exact hx.symm
theorem PT.ok {r : R} {p q : P} (h : PT r p q) (hok : p.ok r = true) : q.ok r = true := by
  have hb := (P.ok_parts hok).1
  simp only [P.ok, Bool.and_eq_true, decide_eq_true_eq] at hok ⊢
  obtain ⟨⟨⟨⟨⟨⟨h1, h2⟩, h3⟩, h4⟩, h5⟩, h6⟩, h7⟩ := hok
  have hp := inB_iff.1 h4
  refine ⟨⟨⟨⟨⟨⟨h1, h.pits.lq⟩, h.stores.lt⟩, inB_iff.2 (by rw [h.player]; omega)⟩, ?_⟩, ?_⟩, ?_⟩
  · exact List.all_eq_true.2 (fun x hx => List.all_eq_true.1 h5 x (rt_mem h.pits x hx))
  · exact List.all_eq_true.2 (fun x hx => List.all_eq_true.1 h6 x ((st_sum h.stores).2 x hx))
  · rw [rt_sum hb.lo h.pits, (st_sum h.stores).1]; exact h7
theorem PT.ok_eq {r : R} {p q : P} (h : PT r p q) : q.ok r = p.ok r := by
  cases hp : p.ok r
  · cases hq : q.ok r
    · rfl
    · rw [h.symm.ok hq] at hp; cases hp
  · exact h.ok hp
structure DT (r : R) (d e : Done) : Prop where
  code : e.code = d.code
  last : d.code = 0 → e.last = sg r.pits d.last ∧ PlaceOk r d.last
  pits : d.code = 0 → Rt r.pits d.pits e.pits
  stores : d.code = 0 → St d.stores e.stores
theorem from_sg {r : R} (hb : r.Bd) {p q : P} (h : PT r p q) (hp : 0 ≤ p.player ∧ p.player ≤ 1) {m : Int} (hm : 0 ≤ m ∧ m ≤ r.pits - 1) :
    (0 ≤ p.player * r.pits + m ∧ p.player * r.pits + m < 2 * r.pits) ∧ q.player * r.pits + m = sg r.pits (p.player * r.pits + m) := by
  have := hb.lo
  rw [h.player]
  rcases (show p.player = 0 ∨ p.player = 1 by omega) with e | e
  · rw [e]
    refine ⟨by omega, ?_⟩
    rw [sg_lo (by omega) (by omega)]; omega
  · rw [e]
    refine ⟨by omega, ?_⟩
    rw [sg_hi (by omega) (by omega)]; omega
theorem codeP_sg {r : R} {p q : P} (h : PT r p q) (m : Int) : codeP r q m = codeP r p m := by
  unfold codeP
  rw [h.ok_eq]
  by_cases hok : p.ok r = true
  · obtain ⟨hb, ⟨pn, hpn, hpn1⟩, _⟩ := P.ok_parts hok
    by_cases hm : inB m 0 (r.pits - 1) = true
    · obtain ⟨⟨f0, f1⟩, f2⟩ := from_sg hb h (by omega) (inB_iff.1 hm)
      rw [f2, h.pits.at_ _ f0 f1]
    · simp [hm]
  · simp [hok]
theorem DT.bad (r : R) {c : Int} (hc : ¬ c = 0) : DT r (.bad c) (.bad c) := ⟨rfl, fun e => absurd e hc, fun e => absurd e hc, fun e => absurd e hc⟩
theorem doneP_sg {r : R} {p q : P} (h : PT r p q) (m : Int) : DT r (doneP r p m) (doneP r q m) := by
  by_cases hc : codeP r p m = 0
  · obtain ⟨hok, hm, _⟩ := codeP_zero hc
    obtain ⟨hb, ⟨pn, hpn, hpn1⟩, _⟩ := P.ok_parts hok
    have hp : 0 ≤ p.player ∧ p.player ≤ 1 := by omega
    obtain ⟨⟨f0, f1⟩, f2⟩ := from_sg hb h hp hm
    have hc2 : codeP r q m = 0 := by rw [codeP_sg h]; exact hc
    rcases sowP_sg hb hp.1 hp.2 f0 f1 h.pits h.stores with ⟨a, b⟩ | ⟨L, M, n, a, b, hLM, hpl⟩
    · rw [← h.player, ← f2] at b
      rw [doneP_bad (c := 10) (by omega) (.inr ⟨hc, a, rfl⟩), doneP_bad (c := 10) (by omega) (.inr ⟨hc2, b, rfl⟩)]
      exact DT.bad r (by omega)
    · rw [← h.player, ← f2] at b
      rw [doneP_ok hc a, doneP_ok hc2 b]
      obtain ⟨t1, t2⟩ := takeP_sg hb hLM.pits hLM.stores hp.1 hp.2 hpl
      have es := slamP_sg hb hLM.pits hp.1 hp.2 hpl
      have e1 := sideP_sg hb.lo h.pits (pl := 1 - p.player) (by omega) (by omega)
      have e2 := sideP_sg hb.lo t1 (pl := 1 - p.player) (by omega) (by omega)
      rw [show 1 - (1 - p.player) = 1 - q.player by rw [h.player]] at e1 e2
      have hq : q.player = 1 - p.player := h.player
      have e3 : sideP r (takeP r q.player M.pits M.stores M.last).1 (1 - q.player) = sideP r (takeP r p.player L.pits L.stores L.last).1 (1 - p.player) := by
        rw [← e2, hLM.last, hq]
      rw [← hLM.last, ← h.player] at es t1 t2
      unfold doneL
      rw [es, e1, e3]
      split
      · exact DT.bad r (by omega)
      · split
        · exact DT.bad r (by omega)
        · exact ⟨rfl, fun _ => ⟨hLM.last, hpl⟩, fun _ => t1, fun _ => t2⟩
  · have hc2 : codeP r q m = codeP r p m := codeP_sg h m
    rw [doneP_bad hc (.inl rfl), doneP_bad (c := codeP r p m) hc (.inl hc2.symm)]
    exact DT.bad r hc
/-- a move leads to the same on the turned board -/
structure MT (r : R) (z y : Mk) : Prop where
  code : y.code = z.code
  gain : y.gain = z.gain
  again : y.again = z.again
  move : y.move = z.move
  pos : z.code = 0 → PT r (nxt z) (nxt y)
theorem makeP_sg {r : R} {p q : P} (h : PT r p q) (m : Int) : MT r (makeP r p m) (makeP r q m) := by
  have hd := doneP_sg h m
  by_cases hc : (doneP r p m).code = 0
  · have hc2 : (doneP r q m).code = 0 := by rw [hd.code]; exact hc
    obtain ⟨hok, _⟩ := doneP_brd hc
    obtain ⟨hb, ⟨pn, hpn, hpn1⟩, _⟩ := P.ok_parts hok
    have hp : 0 ≤ p.player ∧ p.player ≤ 1 := by omega
    obtain ⟨l1, l2⟩ := hd.last hc
    have el : ((doneP r q m).last = -1) = ((doneP r p m).last = -1) := by
      rw [l1, eq_iff_iff]
      have := hb.lo
      rcases l2 with e | ⟨a, b⟩
      · rw [e, sg_st]
      · have := (sg_range a b).1
        omega
    have hs := hd.stores hc
    have hag : (r.again && decide ((doneP r q m).last = -1)) = (r.again && decide ((doneP r p m).last = -1)) := by simp only [el]
    rw [makeP_ok hc, makeP_ok hc2]
    refine ⟨rfl, ?_, hag, rfl, fun _ => ⟨hd.pits hc, hs, ?_⟩⟩
    · simp only
      rw [h.player, hs.at hp.1 hp.2, h.stores.at hp.1 hp.2]
    · simp only [nxt]
      rw [hag]
      split
      · exact h.player
      · rw [h.player]
  · have hc2 : ¬ (doneP r q m).code = 0 := by rw [hd.code]; exact hc
    rw [makeP_bad rfl hc, makeP_bad rfl hc2, hd.code]
    exact ⟨rfl, rfl, rfl, rfl, fun e => absurd e hc⟩
/-- there is one turned position alone -/
theorem PT.uniq {r : R} {p q q' : P} (h : PT r p q) (h' : PT r p q') : q = q' := by
  obtain ⟨qp, qs, ql⟩ := q
  obtain ⟨qp', qs', ql'⟩ := q'
  have e1 : qp = qp' := by
    have a1 := h.pits.lq
    have a2 := h'.pits.lq
    dsimp only at a1 a2
    refine List.ext_getElem (by omega) (fun i i1 i2 => ?_)
    obtain ⟨a, b⟩ := sg_range (K := r.pits) (q := (i : Int)) (by omega) (by omega)
    have k1 := h.pits.symm.at_ (i : Int) (by omega) (by omega)
    have k2 := h'.pits.symm.at_ (i : Int) (by omega) (by omega)
    have k3 := k1.symm.trans k2
    simpa [List.getD_eq_getElem?_getD, i1, i2] using k3
  have e2 : qs = qs' := by
    obtain ⟨ls, lt, a, b⟩ := h.stores
    obtain ⟨_, lt', a', b'⟩ := h'.stores
    dsimp only at lt lt' a b a' b'
    match qs, lt with
    | [s0, s1], _ =>
      match qs', lt' with
      | [t0, t1], _ =>
        simp at a b a' b'
        rw [a, b, a', b']
  have e3 : ql = ql' := h.player.trans h'.player.symm
  rw [e1, e2, e3]
def turnP (r : R) (p : P) : P := ⟨p.pits.drop r.pits.toNat ++ p.pits.take r.pits.toNat, [p.stores.getD 1 0, p.stores.getD 0 0], 1 - p.player⟩
theorem turnP_pt {r : R} {p : P} (hok : p.ok r = true) : PT r p (turnP r p) := by
  obtain ⟨hb, _, t, hB, _⟩ := P.ok_parts hok
  have hK := hb.lo
  have hl := hB.lp
  obtain ⟨K, hKn⟩ : ∃ K : Nat, r.pits = K := ⟨r.pits.toNat, by omega⟩
  have eK : r.pits.toNat = K := by omega
  refine ⟨⟨hl, by simp [turnP]; omega, fun q q0 q1 => ?_⟩, ⟨hB.ls, rfl, rfl, rfl⟩, rfl⟩
  obtain ⟨i, rfl⟩ : ∃ i : Nat, q = i := ⟨q.toNat, by omega⟩
  simp only [turnP, eK, Int.toNat_natCast, List.getD_eq_getElem?_getD]
  by_cases h : i < K
  · rw [sg_lo (by omega) (by omega), show ((i : Int) + r.pits).toNat = K + i by omega]
    rw [List.getElem?_append_right (by simp; omega)]
    simp only [List.length_drop]
    rw [List.getElem?_take_of_lt (by omega), show K + i - (p.pits.length - K) = i by omega]
  · rw [sg_hi (by omega) (by omega), show ((i : Int) - r.pits).toNat = i - K by omega]
    rw [List.getElem?_append_left (by simp; omega), List.getElem?_drop, show K + (i - K) = i by omega]

theorem turn_parts {r : R} {p : P} (h : p.ok r = true) : ∃ xs ys s0 s1, p = ⟨xs ++ ys, [s0, s1], p.player⟩ ∧ (xs.length : Int) = r.pits ∧ ys.length = xs.length ∧ 1 ≤ xs.length ∧ xs.length ≤ 1000 ∧ turnP r p = ⟨ys ++ xs, [s1, s0], 1 - p.player⟩ := by
  obtain ⟨hb, _, t, hB, _⟩ := P.ok_parts h
  have b1 := hb.lo; have b2 := hb.hi; have b3 := hB.lp; have b4 := hB.ls
  obtain ⟨zs, ss, pl⟩ := p
  simp only at b3 b4
  obtain ⟨s0, s1, rfl⟩ : ∃ a b, ss = [a, b] := by
    match ss, b4 with
    | [a, b], _ => exact ⟨a, b, rfl⟩
  refine ⟨zs.take r.pits.toNat, zs.drop r.pits.toNat, s0, s1, by simp, ?_, ?_, ?_, ?_, ?_⟩
  · simp; omega
  · simp; omega
  · simp; omega
  · simp; omega
  · simp [turnP]


end Go.Proofs.Ytbjgigdkbjabaaa
