/- SrW: memory of a search: its own block, and what stays where nothing but that block changes. Each fact holds under the premises that it states. -/
import Derived.Test.YtcgbbjlcijhcnaaSrP
import Derived.Test.YtcgbbjlcijhcnaaLine
namespace Go.Proofs.Ytcgbbjlcijhcnaa
set_option linter.unusedSimpArgs false
set_option linter.unusedVariables false
set_option linter.unnecessarySimpa false
open Go.RowKit Go.ChangeShapes Go.WideShapes Go.ChangeAt Go.Joins

theorem Chg.cell {lo hi b o : Nat} {w w' : World} (h : Chg lo hi w w') {v : Value} (hv : w.cell? ⟨b, o, none⟩ = some v) (hn : b < lo ∨ hi ≤ b) : w'.cell? ⟨b, o, none⟩ = some v :=
  cell_stab hv (h.block b (World.block_lt_of_cell? w _ hv) hn)
theorem Chg.ints {S : Nat} {w w' : World} {a : Option Addr} {xs : List Int} (h : Chg S (S + 1) w w') (hx : RowN S w a xs) : RowN S w' a xs := by
  refine ⟨fun j u hu => ?_, hx.2⟩
  obtain ⟨b, o, ha, hc⟩ := hx.1 j u hu
  have := hx.2 _ _ _ ha
  exact ⟨b, o, ha, h.cell hc (by omega)⟩
theorem Chg.patAt {S : Nat} {w w' : World} {b o pc sc : Nat} {p : P} {pa sa : Option Addr} (h : Chg S (S + 1) w w') (hp : P.At w b o p pa pc sa sc) (hb : ¬ b = S) : P.At w' b o p pa pc sa sc :=
  ⟨h.cell hp.c0 (by omega), h.cell hp.c1 (by omega), h.cell hp.c2 (by omega)⟩
theorem Chg.ratAt {S : Nat} {w w' : World} {b o : Nat} {r : R} (h : Chg S (S + 1) w w') (hp : R.At w b o r) (hb : ¬ b = S) : R.At w' b o r :=
  ⟨h.cell hp.c0 (by omega), h.cell hp.c1 (by omega), h.cell hp.c2 (by omega), h.cell hp.c3 (by omega), h.cell hp.c4 (by omega), h.cell hp.c5 (by omega), h.cell hp.c6 (by omega), h.cell hp.c7 (by omega), h.cell hp.c8 (by omega)⟩
theorem Chg.boxP {S g : Nat} {w w' : World} {cs : List Value} (h : Chg S (S + 1) w w') (hp : BoxP g cs w) (hb : ¬ g = S) : BoxP g cs w' := fun j v hv => h.cell (hp j v hv) (by omega)
theorem Chg.ownI {S base c : Nat} {w w' : World} {a : Option Addr} {e : TypeId} {size n : Nat} {v : Value} {vs : List Value} (h : Chg S (S + 1) w w') (ho : w.ownsRow base e size v n vs) (hb : S < base) : w'.ownsRow base e size v n vs :=
  own_stab (hi := w.heap.size) (Nat.le_refl _) ho (fun k hk => (ho.lt k hk).2) (fun k k1 k2 => h.block k k2 (by omega))
theorem Chg.mksOwn {S base c : Nat} {w w' : World} {ad : Option Addr} {l : List (Mk × MA)} (h : Chg S (S + 1) w w') (ho : MksOwn w base ad c l) (hb : S < base) : MksOwn w' base ad c l :=
  ⟨h.ownI (c := 0) (a := none) ho.row hb, fun x hx => ⟨⟨h.ownI (c := 0) (a := none) (ho.items x hx).1.pits hb, h.ownI (c := 0) (a := none) (ho.items x hx).1.stores hb, (ho.items x hx).1.apart⟩, (ho.items x hx).2⟩⟩
theorem Chg.grow {lo hi : Nat} {a b c : World} (h : Chg lo hi a b) (k : Below b.heap.size b c) : Chg lo hi a c := h.trans (Chg.ofBelow k)
/-- the block of a search: where its rules lie, and how many positions it has asked -/
structure SrB (w : World) (S rb ro : Nat) (s : Int) : Prop where
  c0 : w.cell? ⟨S, 0, none⟩ = some (.pointer (some ⟨rb, ro, none⟩))
  c1 : w.cell? ⟨S, 1, none⟩ = some (.int .i64 s)
  fz : ∀ o, w.frozen? ⟨S, o, none⟩ = false
theorem SrB.below {w w' : World} {S rb ro : Nat} {s : Int} (h : SrB w S rb ro s) (hb : Below w.heap.size w w') : SrB w' S rb ro s := by
  have hB : S < w.heap.size := World.block_lt_of_cell? w _ h.c0
  exact ⟨(hb.cell (show (Addr.mk S 0 none).block < _ from hB)).trans h.c0, (hb.cell (show (Addr.mk S 1 none).block < _ from hB)).trans h.c1, fun o => (hb.frozen (show (Addr.mk S o none).block < _ from hB)).trans (h.fz o)⟩
theorem SrB.set {w : World} {S rb ro : Nat} {s : Int} (h : SrB w S rb ro s) (n : Int) : SrB (w.setCell ⟨S, 1, none⟩ (.int .i64 n)) S rb ro n := by
  refine ⟨?_, World.cell?_setCell_same _ _ _ h.c1, fun o => by simp [h.fz]⟩
  rw [cell_off (by omega)]
  exact h.c0
theorem rowN_prow {S : Nat} {w : World} {p : P} {pa sa : Option Addr} (h1 : RowN S w pa p.pits) (h2 : RowN S w sa p.stores) : PRow w p pa sa := ⟨h1.1, h2.1⟩
theorem mks_item {w : World} {base c : Nat} {ad : Option Addr} {l : List (Mk × MA)} (h : MksOwn w base ad c l) {S : Nat} (hS : S < base) {x : Mk × MA} (hx : x ∈ l) : RowN S w x.2.pa x.1.pits ∧ RowN S w x.2.sa x.1.stores :=
  ⟨own_rowN (h.items x hx).1.pits hS, own_rowN (h.items x hx).1.stores hS⟩

end Go.Proofs.Ytcgbbjlcijhcnaa
