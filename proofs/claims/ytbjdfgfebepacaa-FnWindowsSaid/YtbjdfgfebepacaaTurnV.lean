/- TurnV: values and sizes of searches on the turned board. Each fact holds under the premises that it states. -/
import Derived.Test.YtbjdfgfebepacaaView
import Derived.Test.YtbjdfgfebepacaaLine
namespace Go.Proofs.Ytbjdfgfebepacaa
set_option linter.unusedSimpArgs false
set_option linter.unusedVariables false
set_option linter.unnecessarySimpa false

/-- results, one for one, of a board and of the turned one -/
def L2 (r : R) : List Mk → List Mk → Prop
  | [], [] => True
  | x :: l, y :: m => (MT r x y ∧ x.code = 0 ∧ (nxt x).ok r = true) ∧ L2 r l m
  | [], _ :: _ => False
  | _ :: _, [] => False
theorem L2.snoc {r : R} {x y : Mk} (h : MT r x y ∧ x.code = 0 ∧ (nxt x).ok r = true) : ∀ {l m : List Mk}, L2 r l m → L2 r (l ++ [x]) (m ++ [y])
  | [], [], _ => ⟨h, trivial⟩
  | a :: l, b :: m, hl => ⟨hl.1, L2.snoc (l := l) (m := m) h hl.2⟩
  | [], _ :: _, hl => hl.elim
  | _ :: _, [], hl => hl.elim
theorem L2.nil {r : R} : ∀ {l m : List Mk}, L2 r l m → (m = [] ↔ l = [])
  | [], [], _ => by simp
  | a :: l, b :: m, _ => by simp
  | [], _ :: _, hl => hl.elim
  | _ :: _, [], hl => hl.elim
theorem allGo_sg {r : R} {p q : P} (h : PT r p q) : ∀ k, L2 r (allGo r p k) (allGo r q k)
  | 0 => by simp [allGo, L2]
  | k + 1 => by
    have ih := allGo_sg h k
    have hm := makeP_sg h (k : Int)
    by_cases hc : (makeP r p (k : Int)).code = 0
    · rw [allGo_ok hc, allGo_ok (by rw [hm.code]; exact hc)]
      exact ih.snoc ⟨hm, hc, makeP_valid hc⟩
    · rw [allGo_bad hc, allGo_bad (by rw [hm.code]; exact hc)]
      exact ih
theorem bGo_sg {r : R} {f g : P → Int} (hf : ∀ p q, PT r p q → p.ok r = true → g q = f p) : ∀ {l m : List Mk}, L2 r l m → ∀ (i : Nat) (b : Int), bGo g m i b = bGo f l i b
  | [], [], _, i, b => rfl
  | x :: l, y :: m, hl, i, b => by
    obtain ⟨⟨h1, h2, h3⟩, h4⟩ := hl
    have e1 := hf _ _ (h1.pos h2) h3
    have e2 : moveV y (g (nxt y)) = moveV x (f (nxt x)) := by unfold moveV; rw [h1.again, h1.gain, e1]
    simp only [bGo]
    rw [e2]
    exact bGo_sg hf h4 _ _
  | [], _ :: _, hl, i, b => hl.elim
  | _ :: _, [], hl, i, b => hl.elim
theorem szGo_sg {r : R} {f g : P → Nat} (hf : ∀ p q, PT r p q → p.ok r = true → g q = f p) : ∀ {l m : List Mk}, L2 r l m → szGo g m = szGo f l
  | [], [], _ => rfl
  | x :: l, y :: m, hl => by
    obtain ⟨⟨h1, h2, h3⟩, h4⟩ := hl
    have e1 := hf _ _ (h1.pos h2) h3
    simp only [szGo]
    rw [e1, szGo_sg hf h4]
  | [], _ :: _, hl => hl.elim
  | _ :: _, [], hl => hl.elim
theorem endP_sg {r : R} {p q : P} (h : PT r p q) (hok : p.ok r = true) : endP r q = endP r p := by
  obtain ⟨hb, ⟨pn, hpn, hpn1⟩, _⟩ := P.ok_parts hok
  unfold endP
  have e1 := sideP_sg hb.lo h.pits (pl := p.player) (by omega) (by omega)
  have e2 := sideP_sg hb.lo h.pits (pl := 1 - p.player) (by omega) (by omega)
  rw [h.player, e1, e2]
theorem valueP_sg {r : R} : ∀ (d : Nat) (p q : P), PT r p q → p.ok r = true → valueP r d q = valueP r d p
  | 0, p, q, h, hok => by
    have hl : L2 r (allP r p) (allP r q) := allGo_sg h r.pits.toNat
    simp only [valueP]
    rw [endP_sg h hok]
    by_cases e : allP r p = []
    · rw [if_pos e, if_pos (hl.nil.2 e)]
    · rw [if_neg e, if_neg (fun x => e (hl.nil.1 x))]
  | d + 1, p, q, h, hok => by
    have hl : L2 r (allP r p) (allP r q) := allGo_sg h r.pits.toNat
    simp only [valueP]
    rw [endP_sg h hok, bGo_sg (fun a b hab hao => valueP_sg d a b hab hao) hl]
    by_cases e : allP r p = []
    · rw [if_pos e, if_pos (hl.nil.2 e)]
    · rw [if_neg e, if_neg (fun x => e (hl.nil.1 x))]
theorem sizeT_sg {r : R} : ∀ (d : Nat) (p q : P), PT r p q → sizeT r d q = sizeT r d p
  | 0, p, q, h => rfl
  | d + 1, p, q, h => by
    have hl : L2 r (allP r p) (allP r q) := allGo_sg h r.pits.toNat
    simp only [sizeT]
    rw [szGo_sg (fun a b hab _ => sizeT_sg d a b hab) hl]
theorem srchC_sg {r : R} {p q : P} (h : PT r p q) (d : Int) : srchC r q d = srchC r p d := by
  unfold srchC
  rw [h.ok_eq, sizeT_sg d.toNat p q h]
theorem svalP_sg {r : R} {p q : P} (h : PT r p q) (d : Int) : svalP r q d = svalP r p d := by
  unfold svalP
  rw [srchC_sg h]
  by_cases e : srchC r p d = 0
  · have hok : p.ok r = true := by
      unfold srchC at e
      split at e
      · assumption
      · omega
    rw [if_pos e, if_pos e, valueP_sg d.toNat p q h hok]
  · rw [if_neg e, if_neg e]
theorem sizeT_pos (r : R) : ∀ (d : Nat) (p : P), 1 ≤ sizeT r d p
  | 0, p => Nat.le_refl _
  | d + 1, p => by simp only [sizeT]; omega
/-- what the law on windows asks -/
theorem windows_hold (r : R) (p : P) (hok : p.ok r = true) (d lo k : Int) (hk : 0 ≤ k) :
    swinP r p d lo (lo + k) = (if srchC r p d = 0 then (min (max (valueP r d.toNat p) lo) (lo + k), 0) else (0, srchC r p d)) := by
  unfold swinP
  rw [if_neg (fun e => by omega)]
theorem size_hold (r : R) (p : P) (d : Int) (h : srchC r p d = 0) : 1 ≤ (ssizeP r p d).1 ∧ (ssizeP r p d).1 ≤ 3000 := by
  unfold ssizeP
  rw [if_pos h]
  have := sizeT_pos r d.toNat p
  unfold srchC at h
  split at h
  · split at h
    · split at h
      · omega
      · simp only; omega
    · omega
  · omega
end Go.Proofs.Ytbjdfgfebepacaa
