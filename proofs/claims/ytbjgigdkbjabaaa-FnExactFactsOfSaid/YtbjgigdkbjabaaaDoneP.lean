/- DoneP: a move that is done, in plain terms. Each fact holds under the premises that it states. -/
import Derived.Test.YtbjgigdkbjabaaaCapP
import Derived.Test.YtbjgigdkbjabaaaPos2
import Derived.Test.YtbjgigdkbjabaaaCap3
namespace Go.Proofs.Ytbjgigdkbjabaaa
set_option linter.unusedSimpArgs false
set_option linter.unusedVariables false
set_option linter.unnecessarySimpa false
open Go.RowKit Go.ChangeShapes Go.WideShapes Go.ChangeAt Go.Joins

def feedP (r : R) (p : P) : Bool := r.feed && decide (sideP r p.pits (1 - p.player) = 0)
theorem POwn.le {w : World} {base base' : Nat} {p : P} {pa sa : Option Addr} {pc sc : Nat} (h : POwn w base p pa pc sa sc) (hb : base' ≤ base) : POwn w base' p pa pc sa sc := ⟨ownsRow_le h.pits hb, ownsRow_le h.stores hb, h.apart⟩
theorem zeroP_nn (l : List Int) : ∀ {P : List Int} {m : Int}, bdL P m → 0 ≤ m → bdL (zeroP P l) m := by
  induction l with
  | nil => intro P m h _; exact h
  | cons k l ih => intro P m h hm; exact ih (bdL_set h _ (Int.le_refl 0) hm) hm
theorem takeP_ok {r : R} (hb : r.Bd) {P S : List Int} {t : Int} (h : Brd r P S t) (ht : t ≤ 96) {pl last : Int} : allIn (takeP r pl P S last).1 = true ∧ ((takeP r pl P S last).1.length : Int) = 2 * r.pits := by
  unfold takeP
  refine ⟨List.all_eq_true.2 fun n hn => inB_iff.2 (zeroP_nn _ (h.bp ht) (by omega) n hn), by rw [zeroP_length]; exact h.lp⟩
theorem Brd.allIn {r : R} {P S : List Int} {t : Int} (h : Brd r P S t) (ht : t ≤ 96) : allIn P = true := List.all_eq_true.2 fun n hn => by
  have := h.bp ht n hn
  exact inB_iff.2 this
def doneL (r : R) (p : P) (L : Lap) (n : Int) : Done :=
  if r.slam = 1 ∧ slamP r p.player L.pits L.last = true then .bad 9
  else if r.feed = true ∧ sideP r p.pits (1 - p.player) = 0 ∧ sideP r (takeP r p.player L.pits L.stores L.last).1 (1 - p.player) = 0 then .bad 9
  else ⟨0, (takeP r p.player L.pits L.stores L.last).1, (takeP r p.player L.pits L.stores L.last).2, L.last, n⟩
theorem doneP_bad {r : R} {p : P} {move c : Int} (hc : ¬ c = 0) (h : c = codeP r p move ∨ codeP r p move = 0 ∧ sowP r p.player (p.player * r.pits + move) p.pits p.stores = none ∧ c = 10) : doneP r p move = .bad c := by
  unfold doneP
  rcases h with rfl | ⟨h1, h2, rfl⟩
  · rw [if_neg hc]
  · rw [if_pos h1, h2]
theorem doneP_ok {r : R} {p : P} {move n : Int} {L : Lap} (h1 : codeP r p move = 0) (h2 : sowP r p.player (p.player * r.pits + move) p.pits p.stores = some (L, n)) : doneP r p move = doneL r p L n := by
  unfold doneP doneL
  rw [if_pos h1, h2]
theorem own_caps {w : World} {base size n c : Nat} {e : TypeId} {a : Option Addr} {vs : List Value} (h : w.ownsRow base e size (.slice a n c) n vs) : n ≤ c ∧ c ≤ maxLen := by
  obtain ⟨_, ⟨h1, h2⟩ | ⟨g, cap, cur, hv, hb, hg, hn, hm, _⟩⟩ := h
  · cases h1; simp
  · cases hv; exact ⟨hn, hm⟩
/-- a move that is sown leaves a valid board -/
theorem sowP_brd {r : R} {p : P} {move n : Int} {L : Lap} (h1 : codeP r p move = 0) (h2 : sowP r p.player (p.player * r.pits + move) p.pits p.stores = some (L, n)) : p.ok r = true ∧ r.Bd ∧ (∃ pn : Nat, p.player = pn ∧ pn ≤ 1) ∧ ∃ t, Brd r L.pits L.stores t ∧ t ≤ 96 ∧ PlaceOk r L.last := by
  obtain ⟨hok, mv, hnz⟩ := codeP_zero h1
  obtain ⟨hbd, ⟨pn, hpn, hpn1⟩, t, hB, ht0, ht1⟩ := P.ok_parts hok
  obtain ⟨fn, hfn, hfl⟩ := from_ok hok mv
  rw [hfn] at h2
  obtain ⟨k1, k2, k3⟩ := lapP_brd hbd p.player fn (by omega) p.pits p.stores [] t hB hfl
  obtain ⟨j1, j2, j3, j4, j5⟩ := sowGo_brd hbd p.player (by omega) 99 _ L n k1 k3 h2
  exact ⟨hok, hbd, ⟨pn, hpn, hpn1⟩, t, j1, ht1, j2⟩

end Go.Proofs.Ytbjgigdkbjabaaa
