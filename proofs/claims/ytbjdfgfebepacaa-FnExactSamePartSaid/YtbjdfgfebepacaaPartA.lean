/- PartA: the law's argument, a part of work, opened. Holds under the premises that each statement names. -/
import Derived.Test.YtbjdfgfebepacaaPart
import Derived.Deep.Slices
namespace Go.Proofs.Ytbjdfgfebepacaa
set_option linter.unusedSimpArgs false
set_option linter.unusedVariables false
set_option linter.unnecessarySimpa false
open Go.RowKit Go.ChangeShapes Go.WideShapes Go.ChangeAt Go.Joins

/-! ### the law's argument -/
theorem list5 {α : Type} {cs : List α} (h : cs.length = 5) : ∃ a b c d e, cs = [a, b, c, d, e] := by
  match cs, h with
  | [a, b, c, d, e], _ => exact ⟨a, b, c, d, e, rfl⟩
theorem open_known {H : Type} {enc : TypeId × Value → H} {W : World} {held : Bool} {fuel : Nat} {cs : List Value} {x : DataW H × List MemPlace}
    (h : DataW.trod enc Try.prog W 0 (fun _ => true) held fuel 200 cs = some x) :
    ∃ (k : Kn × KA), cs = (k.1.cells k.2).toList ∧ Ints W k.2.qa k.1.quiet ∧ k.1.quiet.length ≤ maxLen := by
  obtain ⟨xs, n, _, _, hl, hxs, hf⟩ := DataW.trod_struct Try.underlying200 h
  have hc : Try.prog.cellsOf 200 = 5 := by kernel_rfl
  have ci : Try.prog.cellsOf 2 = 1 := by kernel_rfl
  have cb : Try.prog.cellsOf 4 = 1 := by kernel_rfl
  have cl : Try.prog.cellsOf 51 = 1 := by kernel_rfl
  rw [hc] at hl
  obtain ⟨a0, a1, a2, a3, a4, rfl⟩ := list5 hl
  obtain ⟨y0, y1, y2, y3, y4, rfl⟩ := list5 (cs := xs) (by simpa using hxs)
  have f0 := hf 0 _ rfl
  have f1 := hf 1 _ rfl
  have f2 := hf 2 _ rfl
  have f3 := hf 3 _ rfl
  have f4 := hf 4 _ rfl
  simp [ci, cb, cl] at f0 f1 f2 f3 f4
  obtain ⟨n0, e0, _⟩ := DataW.trod_bool Try.underlying4 f0
  obtain ⟨n1, e1, _, _⟩ := DataW.trod_int Try.underlying2 f1
  obtain ⟨n2, e2, _⟩ := DataW.trod_bool Try.underlying4 f2
  obtain ⟨n3, e3, _, _⟩ := DataW.trod_int Try.underlying2 f3
  obtain ⟨a, c, vs, e4, r4, m4, _⟩ := open_slice_ints f4
  simp at e0 e1 e2 e3 e4
  subst e0 e1 e2 e3 e4
  exact ⟨(⟨n0, n1, n2, n3, vs⟩, ⟨a, c⟩), rfl, r4, m4⟩
/-- a list whose items are known one by one -/
theorem known_list {W : World} {b off : Nat} : ∀ (n : Nat), (∀ i, i < n → ∃ k : Kn × KA, (∀ j v, j < 5 → (k.1.cells k.2).toList[j]? = some v → W.cell? ⟨b, off + (i * 5 + j), none⟩ = some v) ∧ Ints W k.2.qa k.1.quiet ∧ k.1.quiet.length ≤ maxLen) →
    ∃ l : List (Kn × KA), l.length = n ∧ KRows W (some ⟨b, off, none⟩) l ∧ ∀ x ∈ l, x.1.quiet.length ≤ maxLen
  | 0, _ => ⟨[], rfl, ⟨fun j v hv => by simp [kcells] at hv, fun x hx => by cases hx⟩, fun x hx => by cases hx⟩
  | n + 1, h => by
    obtain ⟨l, hl, ⟨hr, hi⟩, hm⟩ := known_list n (fun i hi => h i (by omega))
    obtain ⟨k, hc, hk, hkm⟩ := h n (by omega)
    refine ⟨l ++ [k], by simp [hl], ⟨fun j v hv => ?_, fun x hx => ?_⟩, fun x hx => ?_⟩
    · rw [kcells_append] at hv
      by_cases h1 : j < (kcells l).length
      · rw [List.getElem?_append_left h1] at hv
        exact hr j v hv
      · have hkl := kcells_length l
        rw [List.getElem?_append_right (by omega)] at hv
        refine ⟨b, off, rfl, ?_⟩
        have hj : j - (kcells l).length < 5 := by
          have := (List.getElem?_eq_some_iff.1 hv).1
          simpa [kcells, Kn.cells] using this
        have := hc (j - (kcells l).length) v hj (by simpa [kcells] using hv)
        rw [show off + (n * 5 + (j - (kcells l).length)) = off + j by omega] at this
        exact this
    · rcases List.mem_append.1 hx with hx | hx
      · exact hi x hx
      · obtain rfl : x = k := by simpa using hx
        exact hk
    · rcases List.mem_append.1 hx with hx | hx
      · exact hm x hx
      · obtain rfl : x = k := by simpa using hx
        exact hkm
set_option maxRecDepth 100000 in
theorem open_knowns {H : Type} {enc : TypeId × Value → H} {W : World} {held : Bool} {fuel : Nat} {cs : List Value} {x : DataW H × List MemPlace}
    (h : DataW.trod enc Try.prog W 0 (fun _ => true) held fuel 41 cs = some x) :
    ∃ (l : List (Kn × KA)) (a : Option Addr) (c : Nat), cs = [.slice a l.length c] ∧ KRows W a l ∧ l.length ≤ maxLen ∧ ∀ x ∈ l, x.1.quiet.length ≤ maxLen := by
  have hc5 : Try.prog.cellsOf 200 = 5 := by kernel_rfl
  rcases Go.Deep.open_slice Try.underlying41 h with ⟨hcs, hx⟩ | ⟨a, len, cap, m, n, D, Pl, hcs, _, hl, hm, hmm, hx, hi⟩
  · exact ⟨[], none, 0, by simpa using hcs, ⟨fun j v hv => by simp [kcells] at hv, fun x hx => by cases hx⟩, by simp, fun x hx => by cases hx⟩
  · have hmc : m = cap := by simpa using hmm
    by_cases h0 : len = 0
    · subst h0
      exact ⟨[], some a, cap, by simpa using hcs, ⟨fun j v hv => by simp [kcells] at hv, fun x hx => by cases hx⟩, by simp, fun x hx => by cases hx⟩
    · have hsp : a.spot = none := by
        obtain ⟨cs', h1, h2⟩ := hi 0 (by omega)
        rw [hc5] at h1
        obtain ⟨_, h3, h4⟩ := World.cells?_some h1
        have h5 := h4 0 (by omega)
        rw [List.getElem?_eq_getElem (by omega)] at h5
        simpa [Addr.add] using World.cell?_spot h5
      obtain ⟨b, off, spot⟩ := a
      dsimp only at hsp
      subst hsp
      obtain ⟨l, hll, hr, hq⟩ := known_list (W := W) (b := b) (off := off) len (fun i hil => by
        obtain ⟨cs', h1, h2⟩ := hi i (by omega)
        obtain ⟨k, rfl, hk, hkm⟩ := open_known h2
        rw [hc5] at h1
        obtain ⟨_, h3, h4⟩ := World.cells?_some h1
        refine ⟨k, fun j v hj hv => ?_, hk, hkm⟩
        have h5 := h4 j hj
        rw [hv, Go.Deep.add_add, Go.WideShapes.add_plain] at h5
        exact h5)
      refine ⟨l, some ⟨b, off, none⟩, cap, by rw [hll]; exact hcs, hr, by omega, hq⟩
set_option maxRecDepth 100000 in
theorem arg_part {H : Type} {enc : TypeId × Value → H} {W : World} {base : Nat} {v : Value} {d : DataW H} {q : List MemPlace}
    (hval : Value.okWide Try.prog W .any base 43 v) (h : DataW.Trod enc Try.prog W 0 (fun _ => true) true 43 v d q) :
    ∃ (x : Pt) (a : Option Addr) (c : Nat), v = x.val a c ∧ KRows W a x.ents ∧ x.Small maxLen := by
  obtain ⟨cs, rfl⟩ := open_struct_val Try.underlying43 hval
  obtain ⟨fuel, hf⟩ := h
  obtain ⟨xs, n, _, _, hl, hxs, hf⟩ := DataW.trod_struct Try.underlying43 hf
  have hc : Try.prog.cellsOf 43 = 2 := by kernel_rfl
  have ci : Try.prog.cellsOf 2 = 1 := by kernel_rfl
  have cl : Try.prog.cellsOf 41 = 1 := by kernel_rfl
  rw [hc] at hl
  obtain ⟨a0, a1, hcs⟩ := list2 hl
  have hcs' : cs.toList = [a0, a1] := hcs
  obtain ⟨y0, y1, rfl⟩ := list2 (cs := xs) (by simpa using hxs)
  have f0 := hf 0 _ rfl
  have f1 := hf 1 _ rfl
  simp only [hcs] at f0 f1
  simp [ci, cl] at f0 f1
  obtain ⟨n0, e0, _, w0⟩ := DataW.trod_int Try.underlying2 f0
  obtain ⟨l, a, c, e1, hr, m1, m2⟩ := open_knowns f1
  simp at e0 e1
  subst e0 e1
  have hr' : cs = (Pt.mk n0 l).cells a c := Array.toList_inj.1 hcs'
  exact ⟨⟨n0, l⟩, a, c, congrArg Value.agg hr', hr, m1, m2⟩

end Go.Proofs.Ytbjdfgfebepacaa
