/- Held: regions that draw their order, walked by number: the operations are told by their place in the list. Each fact holds under the premises that it states. -/
import Derived.Deep.RegionHeld3
namespace Go.Proofs.Ytbjgigdkbjabaaa
set_option linter.unusedSimpArgs false
set_option linter.unusedVariables false

theorem drop_get {α : Type} : ∀ {l : List α} {i : Nat} {x : α} {post : List α}, l.drop i = x :: post → l[i]? = some x
  | [], i, x, post, h => by simp at h
  | y :: l, 0, x, post, h => by simp at h; simp [h.1]
  | y :: l, i + 1, x, post, h => by simpa using drop_get (l := l) (i := i) (by simpa using h)
theorem drop_aget {l : List Oper} {i : Nat} {x : Oper} {post : List Oper} (h : l.drop i = x :: post) : l.toArray[i]? = some x := by simpa using drop_get h

section
variable {P : Program} {l : List Oper} {Q : Exit → Act → World → Prop} {md : Region.Mode} {S : World → Prop}
theorem heldH {id n : Nat} {listed : Array Bool} {a : Act} {w : World} (hm : P.follows .mixedOrders = true) (hn : l.length = n) (hl : listed = Array.replicate n false) (hS : S w.drew)
    (h : S w.drew → wpAnyH P .any l.toArray Q S n listed a w.drew) : (Code.region id l.toArray true).wp P Q a w := by
  subst hn hl
  exact wp_region_held_drew (S := S) hm hS (by simpa using h)
theorem takeH {i : Nat} {oi : Oper} {post : List Oper} {v : Value} {fuel : Nat} {listed : Array Bool} {a : Act} {w : World}
    (hr : (Region.ready md l.toArray listed).contains i = true) (hf : Region.free md l.toArray listed i = true) (hs : Region.noSelect l.toArray = true) (hi : l.drop i = oi :: post)
    (hQ : ∀ c a w, Q (.panic c) (a.put oi.dst v) w → Q (.panic c) a w) (hw : Region.wanted oi (yielded l.toArray a.tmps) = true)
    (hy : ∀ w, S w → (execOp a.eval oi).run P w = .ok (.value v) w) (hS : S w)
    (h : wpAnyH P md l.toArray Q S fuel (listed.setIfInBounds i true) (a.put oi.dst v) w) : wpAnyH P md l.toArray Q S (fuel + 1) listed a w :=
  wpAnyH_take (drop_aget hi) hs hf hr hQ (.inl ⟨hw, hy⟩) hS h
theorem skipH {i : Nat} {oi : Oper} {post : List Oper} {fuel : Nat} {listed : Array Bool} {a : Act} {w : World}
    (hr : (Region.ready md l.toArray listed).contains i = true) (hf : Region.free md l.toArray listed i = true) (hs : Region.noSelect l.toArray = true) (hi : l.drop i = oi :: post)
    (hQ : ∀ c a w, Q (.panic c) (a.put oi.dst undef) w → Q (.panic c) a w) (hw : Region.wanted oi (yielded l.toArray a.tmps) = false) (hS : S w)
    (h : wpAnyH P md l.toArray Q S fuel (listed.setIfInBounds i true) (a.put oi.dst undef) w) : wpAnyH P md l.toArray Q S (fuel + 1) listed a w :=
  wpAnyH_take (drop_aget hi) hs hf hr hQ (.inr ⟨hw, rfl⟩) hS h
/-- one operation alone may come up, and is wanted -/
theorem nextH {i : Nat} {oi : Oper} {post : List Oper} {fuel : Nat} {listed : Array Bool} {a : Act} {w : World}
    (hr : Region.ready md l.toArray listed = [i]) (hi : l.drop i = oi :: post) (hw : Region.wanted oi (yielded l.toArray a.tmps) = true)
    (h : ∀ K' : Act → World → Prop, Shut (∀ a w, S w → (S w → wpAnyH P md l.toArray Q S fuel (listed.setIfInBounds i true) a w) → K' a w) → Oper.wp P oi a w K' Q) :
    wpAnyH P md l.toArray Q S (fuel + 1) listed a w :=
  wpAnyH_ready hr (by simp) (AllReadyH.cons (drop_aget hi) (fun K hK => by rw [if_pos hw]; exact h K hK) AllReadyH.nil)
/-- two operations may come up, both wanted -/
theorem bothH {i j : Nat} {oi oj : Oper} {p q : List Oper} {fuel : Nat} {listed : Array Bool} {a : Act} {w : World}
    (hr : Region.ready md l.toArray listed = [i, j]) (hi : l.drop i = oi :: p) (hj : l.drop j = oj :: q) (hwi : Region.wanted oi (yielded l.toArray a.tmps) = true) (hwj : Region.wanted oj (yielded l.toArray a.tmps) = true)
    (h1 : ∀ K' : Act → World → Prop, Shut (∀ a w, S w → (S w → wpAnyH P md l.toArray Q S fuel (listed.setIfInBounds i true) a w) → K' a w) → Oper.wp P oi a w K' Q)
    (h2 : ∀ K' : Act → World → Prop, Shut (∀ a w, S w → (S w → wpAnyH P md l.toArray Q S fuel (listed.setIfInBounds j true) a w) → K' a w) → Oper.wp P oj a w K' Q) :
    wpAnyH P md l.toArray Q S (fuel + 1) listed a w :=
  wpAnyH_ready hr (by simp) (AllReadyH.cons (drop_aget hi) (fun K hK => by rw [if_pos hwi]; exact h1 K hK) (AllReadyH.cons (drop_aget hj) (fun K hK => by rw [if_pos hwj]; exact h2 K hK) AllReadyH.nil))
/-- three operations may come up, all wanted -/
theorem threeH {i j k : Nat} {oi oj ok : Oper} {p q r : List Oper} {fuel : Nat} {listed : Array Bool} {a : Act} {w : World}
    (hr : Region.ready md l.toArray listed = [i, j, k]) (hi : l.drop i = oi :: p) (hj : l.drop j = oj :: q) (hk : l.drop k = ok :: r) (hwi : Region.wanted oi (yielded l.toArray a.tmps) = true) (hwj : Region.wanted oj (yielded l.toArray a.tmps) = true) (hwk : Region.wanted ok (yielded l.toArray a.tmps) = true)
    (h1 : ∀ K' : Act → World → Prop, Shut (∀ a w, S w → (S w → wpAnyH P md l.toArray Q S fuel (listed.setIfInBounds i true) a w) → K' a w) → Oper.wp P oi a w K' Q)
    (h2 : ∀ K' : Act → World → Prop, Shut (∀ a w, S w → (S w → wpAnyH P md l.toArray Q S fuel (listed.setIfInBounds j true) a w) → K' a w) → Oper.wp P oj a w K' Q)
    (h3 : ∀ K' : Act → World → Prop, Shut (∀ a w, S w → (S w → wpAnyH P md l.toArray Q S fuel (listed.setIfInBounds k true) a w) → K' a w) → Oper.wp P ok a w K' Q) :
    wpAnyH P md l.toArray Q S (fuel + 1) listed a w :=
  wpAnyH_ready hr (by simp) (AllReadyH.cons (drop_aget hi) (fun K hK => by rw [if_pos hwi]; exact h1 K hK) (AllReadyH.cons (drop_aget hj) (fun K hK => by rw [if_pos hwj]; exact h2 K hK) (AllReadyH.cons (drop_aget hk) (fun K hK => by rw [if_pos hwk]; exact h3 K hK) AllReadyH.nil)))
/-- four operations may come up, all wanted -/
theorem fourH {i j k m : Nat} {oi oj ok om : Oper} {p q r s : List Oper} {fuel : Nat} {listed : Array Bool} {a : Act} {w : World}
    (hr : Region.ready md l.toArray listed = [i, j, k, m]) (hi : l.drop i = oi :: p) (hj : l.drop j = oj :: q) (hk : l.drop k = ok :: r) (hm : l.drop m = om :: s) (hwi : Region.wanted oi (yielded l.toArray a.tmps) = true) (hwj : Region.wanted oj (yielded l.toArray a.tmps) = true) (hwk : Region.wanted ok (yielded l.toArray a.tmps) = true) (hwm : Region.wanted om (yielded l.toArray a.tmps) = true)
    (h1 : ∀ K' : Act → World → Prop, Shut (∀ a w, S w → (S w → wpAnyH P md l.toArray Q S fuel (listed.setIfInBounds i true) a w) → K' a w) → Oper.wp P oi a w K' Q)
    (h2 : ∀ K' : Act → World → Prop, Shut (∀ a w, S w → (S w → wpAnyH P md l.toArray Q S fuel (listed.setIfInBounds j true) a w) → K' a w) → Oper.wp P oj a w K' Q)
    (h3 : ∀ K' : Act → World → Prop, Shut (∀ a w, S w → (S w → wpAnyH P md l.toArray Q S fuel (listed.setIfInBounds k true) a w) → K' a w) → Oper.wp P ok a w K' Q)
    (h4 : ∀ K' : Act → World → Prop, Shut (∀ a w, S w → (S w → wpAnyH P md l.toArray Q S fuel (listed.setIfInBounds m true) a w) → K' a w) → Oper.wp P om a w K' Q) :
    wpAnyH P md l.toArray Q S (fuel + 1) listed a w :=
  wpAnyH_ready hr (by simp) (AllReadyH.cons (drop_aget hi) (fun K hK => by rw [if_pos hwi]; exact h1 K hK) (AllReadyH.cons (drop_aget hj) (fun K hK => by rw [if_pos hwj]; exact h2 K hK) (AllReadyH.cons (drop_aget hk) (fun K hK => by rw [if_pos hwk]; exact h3 K hK) (AllReadyH.cons (drop_aget hm) (fun K hK => by rw [if_pos hwm]; exact h4 K hK) AllReadyH.nil))))
end
end Go.Proofs.Ytbjgigdkbjabaaa
