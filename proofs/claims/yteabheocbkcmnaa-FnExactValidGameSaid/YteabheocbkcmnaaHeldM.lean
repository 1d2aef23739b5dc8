/- HeldM: whole structs, loaded first in regions that draw their order. Each fact holds under the premises that it states. -/
import Derived.Test.YteabheocbkcmnaaHeld
import Derived.Deep.MidRow
namespace Go.Proofs.Yteabheocbkcmnaa
set_option linter.unusedSimpArgs false
set_option linter.unusedVariables false

section
variable {P : Program} {l : List Oper} {Q : Exit → Act → World → Prop} {md : Region.Mode} {S : World → Prop}
/-- a whole load, taken first -/
theorem takeM {i : Nat} {oi : Oper} {post : List Oper} {fuel : Nat} {listed : Array Bool} {a : Act} {w : World} (ty : TypeId) (x : Operand) {b o : Nat} {cs : List Value} {d : TypeDesc}
    (hr : (Region.ready md l.toArray listed).contains i = true) (hf : Region.free md l.toArray listed i = true) (hs : Region.noSelect l.toArray = true) (hi : l.drop i = oi :: post)
    (hQ : ∀ c a w, Q (.panic c) (a.put oi.dst (.agg cs.toArray)) w → Q (.panic c) a w) (hw : Region.wanted oi (yielded l.toArray a.tmps) = true)
    (ho : oi.op = .load ty x) (hx : a.eval x = .pointer (some ⟨b, o, none⟩)) (hc : ∀ w, S w → w.rangeAt b o cs) (hu : P.underlying ty = some d) (hd : d.isRow = true) (hin : (P.info? ty).map (·.size) = some cs.length) (hS : S w)
    (h : wpAnyH P md l.toArray Q S fuel (listed.setIfInBounds i true) (a.put oi.dst (.agg cs.toArray)) w) : wpAnyH P md l.toArray Q S (fuel + 1) listed a w :=
  wpAnyH_take (drop_aget hi) hs hf hr hQ (yieldsIf_load_mid hw ty x ho b o hx cs d hc hu hd hin) hS h
end
end Go.Proofs.Yteabheocbkcmnaa
