/- Pos: positions: the laws' argument, opened, and the contracts of the laws' own functions on positions. Each holds for every argument, under the premises that it states. -/
import Derived.Test.YtbjgigdkbjabaaaInts
namespace Go.Proofs.Ytbjgigdkbjabaaa
set_option linter.unusedSimpArgs false
set_option linter.unusedVariables false
set_option linter.unnecessarySimpa false
open Go.RowKit Go.ChangeShapes Go.WideShapes Go.ChangeAt Go.Joins

structure P where
  pits : List Int
  stores : List Int
  player : Int
  deriving DecidableEq
/-- a position as a value: two slices and a number -/
@[go_sem] def P.cells (p : P) (pa : Option Addr) (pc : Nat) (sa : Option Addr) (sc : Nat) : Array Value := #[.slice pa p.pits.length pc, .slice sa p.stores.length sc, .int .i64 p.player]
@[go_sem] def P.val (p : P) (pa : Option Addr) (pc : Nat) (sa : Option Addr) (sc : Nat) : Value := .agg (p.cells pa pc sa sc)
/-- the position's slices read as its lists -/
structure PRow (w : World) (p : P) (pa sa : Option Addr) : Prop where
  pits : Ints w pa p.pits
  stores : Ints w sa p.stores
theorem PRow.below {B : Nat} {w w' : World} {p : P} {pa sa : Option Addr} (h : PRow w p pa sa) (hb : Below B w w') (hB : w.heap.size ≤ B) : PRow w' p pa sa := ⟨h.pits.below hb hB, h.stores.below hb hB⟩
/-- the position's slices are two rows of the call's own -/
structure POwn (w : World) (base : Nat) (p : P) (pa : Option Addr) (pc : Nat) (sa : Option Addr) (sc : Nat) : Prop where
  pits : w.ownsRow base 2 1 (.slice pa p.pits.length pc) p.pits.length (p.pits.map (Value.int .i64))
  stores : w.ownsRow base 2 1 (.slice sa p.stores.length sc) p.stores.length (p.stores.map (Value.int .i64))
  apart : (Value.slice pa p.pits.length pc).ownBlock = none ∨ (Value.slice pa p.pits.length pc).ownBlock ≠ (Value.slice sa p.stores.length sc).ownBlock
theorem POwn.row {w : World} {base : Nat} {p : P} {pa sa : Option Addr} {pc sc : Nat} (h : POwn w base p pa pc sa sc) : PRow w p pa sa := ⟨own_row h.pits, own_row h.stores⟩
theorem POwn.below {w w' : World} {B base : Nat} {p : P} {pa sa : Option Addr} {pc sc : Nat} (h : POwn w base p pa pc sa sc) (hb : Below B w w') (hB : w.heap.size ≤ B) : POwn w' base p pa pc sa sc := ⟨own_below h.pits hb hB, own_below h.stores hb hB, h.apart⟩

theorem open_pos {H : Type} {enc : TypeId × Value → H} {W : World} {held : Bool} {fuel : Nat} {cs : List Value} {x : DataW H × List MemPlace}
    (h : DataW.trod enc Try.prog W 0 (fun _ => true) held fuel 26 cs = some x) :
    ∃ (p : P) (pa : Option Addr) (pc : Nat) (sa : Option Addr) (sc : Nat), cs = (p.cells pa pc sa sc).toList ∧ PRow W p pa sa ∧ p.pits.length ≤ maxLen ∧ p.stores.length ≤ maxLen ∧ (∀ n ∈ p.pits, I64 n) ∧ (∀ n ∈ p.stores, I64 n) ∧ I64 p.player := by
  obtain ⟨xs, n, _, _, hl, hxs, hf⟩ := DataW.trod_struct Try.underlying26 h
  have hc : Try.prog.cellsOf 26 = 3 := by kernel_rfl
  have ci : Try.prog.cellsOf 2 = 1 := by kernel_rfl
  have cb : Try.prog.cellsOf 24 = 1 := by kernel_rfl
  rw [hc] at hl
  obtain ⟨a0, a1, a2, rfl⟩ := list3 hl
  obtain ⟨y0, y1, y2, rfl⟩ := list3 (cs := xs) (by simpa using hxs)
  have f0 := hf 0 _ rfl
  have f1 := hf 1 _ rfl
  have f2 := hf 2 _ rfl
  simp [ci, cb] at f0 f1 f2
  obtain ⟨pa, pc, ps, e0, r0, m0, i0⟩ := open_slice_ints f0
  obtain ⟨sa, sc, ss, e1, r1, m1, i1⟩ := open_slice_ints f1
  obtain ⟨n2, e2, _, w2⟩ := DataW.trod_int Try.underlying2 f2
  simp at e0 e1 e2
  subst e0 e1 e2
  exact ⟨⟨ps, ss, n2⟩, pa, pc, sa, sc, rfl, ⟨r0, r1⟩, m0, m1, i0, i1, I64_of_wf w2⟩

set_option maxRecDepth 100000 in
theorem arg_pos {H : Type} {enc : TypeId × Value → H} {W : World} {base : Nat} {v : Value} {d : DataW H} {q : List MemPlace}
    (hval : Value.okWide Try.prog W .any base 26 v) (h : DataW.Trod enc Try.prog W 0 (fun _ => true) true 26 v d q) :
    ∃ (p : P) (pa : Option Addr) (pc : Nat) (sa : Option Addr) (sc : Nat), v = p.val pa pc sa sc ∧ PRow W p pa sa ∧ p.pits.length ≤ maxLen ∧ p.stores.length ≤ maxLen ∧ (∀ n ∈ p.pits, I64 n) ∧ (∀ n ∈ p.stores, I64 n) ∧ I64 p.player := by
  obtain ⟨cs, rfl⟩ := open_struct_val Try.underlying26 hval
  obtain ⟨fuel, hf⟩ := h
  obtain ⟨p, pa, pc, sa, sc, hr, hw⟩ := open_pos hf
  have hr' : cs = p.cells pa pc sa sc := Array.toList_inj.1 hr
  exact ⟨p, pa, pc, sa, sc, congrArg Value.agg hr', hw⟩

def szP (left : Int) (p : P) : Int := if szI left p.pits.length < 0 then -1 else szI (szI left p.pits.length) p.stores.length
set_option maxHeartbeats 1000000 in
theorem szPosition_c (p : P) (pa sa : Option Addr) (pc sc : Nat) (left : Int) (w : World) (hl : 0 ≤ left) (hl' : left ≤ 1048576) (hm : p.pits.length ≤ maxLen) (hm' : p.stores.length ≤ maxLen) :
    Calls Try.prog 10 #[p.val pa pc sa sc, .int .i64 left] w fun e w' => e = .returned (.int .i64 (szP left p)) ∧ Below w.heap.size w w' := by
  go_enter Try.func10, Try.ntmps10
  go_wp2_with fail
  refine (szInt64S_c _ _ _ _ _ hl hl' hm).mono ?_
  rintro e w' ⟨rfl, rfl⟩
  by_cases h : szI left p.pits.length < 0
  · have hs : szP left p = -1 := by simp [szP, h]
    have HS := Lib.hid hs
    clear hs
    go_wp2
    go_ret
    exact ⟨by rw [HS.out]; rfl, below_alloc1 _ _⟩
  · have hs : szP left p = szI (szI left p.pits.length) p.stores.length := by simp [szP, h]
    have HS := Lib.hid hs
    have hle : szI left p.pits.length ≤ left := by unfold szI; split <;> omega
    clear hs
    go_wp2_with fail
    refine (szInt64S_c _ _ _ _ _ (by omega) (by omega) hm').mono ?_
    rintro e w' ⟨rfl, rfl⟩
    by_cases h2 : szI (szI left p.pits.length) p.stores.length < 0
    · have h3 : szI (szI left p.pits.length) p.stores.length = -1 := by unfold szI at h2 ⊢; split <;> split <;> simp_all <;> omega
      have H3 := Lib.hid h3
      clear h3
      go_wp2
      go_ret
      exact ⟨by rw [HS.out, H3.out]; rfl, below_alloc1 _ _⟩
    · go_wp2
      go_ret
      exact ⟨by rw [HS.out]; rfl, below_alloc1 _ _⟩

set_option maxHeartbeats 2000000 in
theorem toPosition_c (p : P) (pa sa : Option Addr) (pc sc : Nat) (w : World) (h : PRow w p pa sa) (h1 : p.pits.length ≤ 1048576) (h2 : p.stores.length ≤ 1048576) :
    Calls Try.prog 14 #[p.val pa pc sa sc] w fun e w' => ∃ pa' pc' sa' sc', e = .returned (p.val pa' pc' sa' sc') ∧ POwn w' w.heap.size p pa' pc' sa' sc' ∧ Below w.heap.size w w' := by
  go_enter Try.func14, Try.ntmps14
  go_wp2_with fail
  refine (toInt64S_c _ _ _ _ (h.pits.below (below_alloc3 _ _ _ _) (Nat.le_refl _)) h1).mono ?_
  rintro e w1 ⟨rfl, hown1, hb1⟩
  obtain ⟨hc1, hf1⟩ := bcell hb1
  simp only [World.size_alloc] at hb1 hown1 hc1 hf1
  have hz1 : w.heap.size + 3 ≤ w1.heap.size := by have := hb1.size; simp at this; omega
  have hz1a : w.heap.size < w1.heap.size := by omega
  have hz1b : w.heap.size + 1 < w1.heap.size := by omega
  have hz1c : w.heap.size + 1 + 1 < w1.heap.size := by omega
  have hbw1 : Below w.heap.size w w1 := (below_alloc3 _ _ _ _).trans (hb1.mono (by omega))
  go_wp2_with fail
  refine (toInt64S_c _ _ _ _ (h.stores.below (hbw1.setCell (by simp; omega) _) (Nat.le_refl _)) h2).mono ?_
  rintro e w2 ⟨rfl, hown2, hb2⟩
  have hbw2 : Below w.heap.size w w2 := (hbw1.setCell (by simp; omega) _).trans (hb2.mono (by simp; omega))
  obtain ⟨hc2, hf2⟩ := bcell hb2
  have hz2 : w1.heap.size ≤ w2.heap.size := by have := hb2.size; simpa using this
  have hz2a : w.heap.size < w2.heap.size := by omega
  have hz2b : w.heap.size + 1 < w2.heap.size := by omega
  have hz2c : w.heap.size + 1 + 1 < w2.heap.size := by omega
  have HO1 := Lib.hid hown1
  have HO2 := Lib.hid hown2
  clear hown1 hown2
  go_wp2
  refine bodyPost_ret (v := p.val (some ⟨w.heap.size + 1 + 1 + 1, 0, none⟩) p.pits.length (some ⟨w1.heap.size, 0, none⟩) p.stores.length) (by simp [results, Try.results14, go_sem, hc1, hc2, hz1a, hz1b, hz1c, hz2a, hz2b, hz2c, P.val, P.cells]) rfl ⟨_, _, _, _, rfl, ⟨?_, ?_, ?_⟩, ?_⟩
  · have k1 := own_below (ownsRow_setCell_below HO1.out (a := ⟨w.heap.size + 1 + 1, 0, none⟩) (by simp) (Value.slice (some ⟨w.heap.size + 1 + 1 + 1, 0, none⟩) p.pits.length p.pits.length)) hb2 (Nat.le_refl _)
    exact ownsRow_le (ownsRow_setCell_below (ownsRow_setCell_below (ownsRow_setCell_below (ownsRow_setCell_below (ownsRow_setCell_below k1 (by simp) _) (by simp) _) (by simp) _) (by simp) _) (by simp) _) (by omega)
  · have k2 := HO2.out
    simp only [World.size_setCell] at k2
    exact ownsRow_le (ownsRow_setCell_below (ownsRow_setCell_below (ownsRow_setCell_below (ownsRow_setCell_below (ownsRow_setCell_below k2 (by simp; omega) _) (by simp; omega) _) (by simp; omega) _) (by simp; omega) _) (by simp; omega) _) (by omega)
  · right
    have : w.heap.size + 1 + 1 + 1 < w1.heap.size := (World.ownsRow.lt HO1.out _ rfl).2
    simp [Value.ownBlock]
    omega
  · exact ((((hbw2.setCell (by simp <;> omega) _).setCell (by simp <;> omega) _).setCell (by simp <;> omega) _).setCell (by simp <;> omega) _).setCell (by simp <;> omega) _

end Go.Proofs.Ytbjgigdkbjabaaa
