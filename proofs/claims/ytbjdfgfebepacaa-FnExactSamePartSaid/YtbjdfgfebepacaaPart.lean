/- Part: parts of work: the law's argument, opened, and the contracts of the functions that copy and compare them. Each holds for every argument, under the premises that it states. -/
import Derived.Test.YtbjdfgfebepacaaTable
import Derived.Test.YtbjdfgfebepacaaFrame
import Derived.Test.YtbjdfgfebepacaaHeld
import Derived.Deep.CutRange
namespace Go.Proofs.Ytbjdfgfebepacaa
set_option linter.unusedSimpArgs false
set_option linter.unusedVariables false
set_option linter.unnecessarySimpa false
open Go.RowKit Go.ChangeShapes Go.WideShapes Go.ChangeAt Go.Joins

structure Kn where
  fin : Bool
  en : Int
  loud : Bool
  best : Int
  quiet : List Int
  deriving DecidableEq
structure KA where
  qa : Option Addr
  qc : Nat
@[go_sem] def Kn.cells (x : Kn) (k : KA) : Array Value := #[.bool x.fin, .int .i64 x.en, .bool x.loud, .int .i64 x.best, .slice k.qa x.quiet.length k.qc]
@[go_sem] def Kn.val (x : Kn) (k : KA) : Value := .agg (x.cells k)
def kcells : List (Kn × KA) → List Value
  | [] => []
  | x :: l => (x.1.cells x.2).toList ++ kcells l
theorem kcells_append (l k : List (Kn × KA)) : kcells (l ++ k) = kcells l ++ kcells k := by
  induction l with
  | nil => rfl
  | cons x l ih => simp [kcells, ih]
theorem kcells_length : ∀ (l : List (Kn × KA)), (kcells l).length = l.length * 5
  | [] => rfl
  | x :: l => by rw [kcells, List.length_append, kcells_length l]; simp [Kn.cells]; omega
theorem kcells_get : ∀ (l : List (Kn × KA)) (i j : Nat) (x : Kn × KA), l[i]? = some x → j < 5 → (kcells l)[i * 5 + j]? = (x.1.cells x.2).toList[j]?
  | [], i, j, x, h, hj => by simp at h
  | y :: l, 0, j, x, h, hj => by
    simp at h
    subst h
    have hl : j < (y.1.cells y.2).toList.length := by simpa [Kn.cells] using hj
    rw [Nat.zero_mul, Nat.zero_add, kcells, List.getElem?_append_left hl]
  | y :: l, i + 1, j, x, h, hj => by
    have hl : (y.1.cells y.2).toList.length = 5 := by simp [Kn.cells]
    rw [kcells, List.getElem?_append_right (by omega), hl, ← kcells_get l i j x (by simpa using h) hj]
    congr 1
    omega
structure KRows (w : World) (a : Option Addr) (l : List (Kn × KA)) : Prop where
  row : Row w a (kcells l)
  items : ∀ x ∈ l, Ints w x.2.qa x.1.quiet
theorem KRows.below {B : Nat} {w w' : World} {a : Option Addr} {l : List (Kn × KA)} (h : KRows w a l) (hb : Below B w w') (hB : w.heap.size ≤ B) : KRows w' a l := ⟨h.row.below hb hB, fun x hx => (h.items x hx).below hb hB⟩
structure Kn.At (w : World) (b o : Nat) (x : Kn) (k : KA) : Prop where
  c0 : w.cell? ⟨b, o, none⟩ = some (.bool x.fin)
  c1 : w.cell? ⟨b, o + 1, none⟩ = some (.int .i64 x.en)
  c2 : w.cell? ⟨b, o + 2, none⟩ = some (.bool x.loud)
  c3 : w.cell? ⟨b, o + 3, none⟩ = some (.int .i64 x.best)
  c4 : w.cell? ⟨b, o + 4, none⟩ = some (.slice k.qa x.quiet.length k.qc)
theorem KRows.at {w : World} {a : Option Addr} {l : List (Kn × KA)} (h : KRows w a l) {k : Nat} {x : Kn × KA} (hx : l[k]? = some x) :
    ∃ b off, a = some ⟨b, off, none⟩ ∧ b < w.heap.size ∧ Kn.At w b (off + k * 5) x.1 x.2 := by
  have hk : k < l.length := (List.getElem?_eq_some_iff.1 hx).1
  obtain ⟨b, off, ha, hb, hc⟩ := Row.at h.row (by rw [kcells_length]; omega)
  have key : ∀ j v, j < 5 → (x.1.cells x.2).toList[j]? = some v → w.cell? ⟨b, off + k * 5 + j, none⟩ = some v := fun j v hj hv => by
    have := hc (k * 5 + j) v (by rw [kcells_get l k j x hx hj]; exact hv)
    rw [← Nat.add_assoc] at this
    exact this
  exact ⟨b, off, ha, hb, key 0 _ (by omega) rfl, key 1 _ (by omega) rfl, key 2 _ (by omega) rfl, key 3 _ (by omega) rfl, key 4 _ (by omega) rfl⟩
theorem Kn.At.below {w w' : World} {B b o : Nat} {x : Kn} {k : KA} (h : Kn.At w b o x k) (hb : Below B w w') (hB : b < B) : Kn.At w' b o x k :=
  ⟨(hb.cell hB).trans h.c0, (hb.cell hB).trans h.c1, (hb.cell hB).trans h.c2, (hb.cell hB).trans h.c3, (hb.cell hB).trans h.c4⟩
/-- a part of work, and where it lies -/
structure Pt where
  from_ : Int
  ents : List (Kn × KA)
@[go_sem] def Pt.cells (x : Pt) (a : Option Addr) (c : Nat) : Array Value := #[.int .i64 x.from_, .slice a x.ents.length c]
@[go_sem] def Pt.val (x : Pt) (a : Option Addr) (c : Nat) : Value := .agg (x.cells a c)
@[reducible] def Pt.Same (x y : Pt) : Prop := x.from_ = y.from_ ∧ x.ents.map Prod.fst = y.ents.map Prod.fst
def Pt.Small (x : Pt) (n : Nat) : Prop := x.ents.length ≤ n ∧ ∀ e ∈ x.ents, e.1.quiet.length ≤ n
theorem szI_cases (left : Int) (n : Nat) : (left < n ∧ szI left n = -1) ∨ (¬ left < n ∧ szI left n = left - n) := by
  unfold szI
  by_cases h : left < n
  · exact .inl ⟨h, by rw [if_pos h]⟩
  · exact .inr ⟨h, by rw [if_neg h]⟩

set_option maxHeartbeats 1000000 in
theorem szKnown_c (x : Kn) (k : KA) (left : Int) (w : World) (h0 : 0 ≤ left) (h1 : left ≤ 1048576) (hm : x.quiet.length ≤ maxLen) :
    Calls Try.prog 172 #[x.val k, .int .i64 left] w fun e w' => e = .returned (.int .i64 (szI left x.quiet.length)) ∧ Below w.heap.size w w' := by
  have hs := szI_cases left x.quiet.length
  go_enter Try.func172, Try.ntmps172
  go_wp2_with fail
  refine (szInt64S_c _ _ _ _ _ h0 h1 hm).mono ?_
  rintro e w1 ⟨rfl, rfl⟩
  obtain ⟨y, hy⟩ : ∃ y, y = szI left x.quiet.length := ⟨_, rfl⟩
  rw [← hy] at hs
  have HY := Lib.hid hy
  rw [← hy]
  clear hy
  rcases hs with ⟨h2, rfl⟩ | ⟨h2, h3⟩
  · go_wp2
    go_ret
    exact ⟨by rw [← HY.out]; rfl, below_alloc1 _ _⟩
  · have h4 : ¬ y < 0 := by omega
    clear h3
    go_wp2
    go_ret
    exact ⟨by rw [← HY.out]; rfl, below_alloc1 _ _⟩
/-- a size that is left, and what it says of the list -/
def SzRes (w : World) (left : Int) (l : List (Kn × KA)) (e : Ending) (w' : World) : Prop := ∃ v : Int, e = .returned (.int .i64 v) ∧ v ≤ left ∧ (0 ≤ v → l.length ≤ 1048576 ∧ ∀ x ∈ l, x.1.quiet.length ≤ 1048576) ∧ Below w.heap.size w w'
set_option maxHeartbeats 4000000 in
theorem szKnownS_c (l : List (Kn × KA)) (a : Option Addr) (c : Nat) (left : Int) (w : World) (h : KRows w a l) (h0 : 0 ≤ left) (h1 : left ≤ 1048576) (hm : l.length ≤ maxLen) (hq : ∀ x ∈ l, x.1.quiet.length ≤ maxLen) :
    Calls Try.prog 111 #[.slice a l.length c, .int .i64 left] w (SzRes w left l) := by
  unfold maxLen at hm
  have HK := Lib.hid h
  have HQ := Lib.hid hq
  clear h hq
  by_cases hs : left - l.length < 0
  · go_enter Try.func111, Try.ntmps111
    go_wp2
    go_ret
    exact ⟨-1, rfl, by omega, fun h => by omega, Below.refl _ _⟩
  · go_enter Try.func111, Try.ntmps111
    go_wp2_with fail
    go_loopw [1, 5] (fun v i wr => ∃ (k : Nat) (n : Int), i = .int .i64 k ∧ v = .int .i64 n ∧ k ≤ l.length ∧ 0 ≤ n ∧ n ≤ left - l.length ∧ Hid (∀ (j : Nat) (hj : j < l.length), j < k → l[j].1.quiet.length ≤ 1048576) ∧ Below w.heap.size w wr) (fun _ i _ => l.length - (intOf i).toNat)
    case atStart => exact ⟨0, left - l.length, rfl, rfl, Nat.zero_le _, by omega, by omega, fun j _ h => absurd h (by omega), Below.refl _ _⟩
    case round =>
      obtain ⟨k, n, rfl, rfl, hk, n0, n1, hqs, hbw⟩ := hrel
      have HB := Lib.hid hbw
      clear hbw
      by_cases hlt : k < l.length
      · obtain ⟨b, off, ha, hb, hat⟩ := (HK.out.below HB.out (Nat.le_refl _)).at (k := k) (x := l[k]) (by simp [hlt])
        obtain ⟨c0, c1, c2, c3, c4⟩ := hat
        subst ha
        have HL := Lib.hid (HQ.out l[k] (List.getElem_mem hlt))
        have HX : Hid (∀ y, y = l[k] → y = l[k]) := fun y h => h
        obtain ⟨y, hy⟩ : ∃ y, y = l[k] := ⟨_, rfl⟩
        rw [← hy] at c0 c1 c2 c3 c4 HL
        have HY := Lib.hid hy
        clear hy HX
        obtain ⟨x, K⟩ := y
        dsimp only at c0 c1 c2 c3 c4
        go_wp2_with fail
        refine (szKnown_c x K n _ n0 (by omega) HL.out).mono ?_
        rintro e w2 ⟨rfl, hb2⟩
        have HB2 := Lib.hid (below_next HB.out hb2)
        have hs := szI_cases n x.quiet.length
        obtain ⟨q, hq⟩ : ∃ q, q = szI n x.quiet.length := ⟨_, rfl⟩
        rw [← hq] at hs ⊢
        clear hq hb2 c0 c1 c2 c3 c4
        rcases hs with ⟨h2, rfl⟩ | ⟨h2, h3⟩
        · go_wp2
          go_ret
          exact ⟨-1, rfl, by omega, fun h => by omega, HB2.out⟩
        · have h4 : ¬ q < 0 := by omega
          have h5 : q ≤ n := by omega
          have h6 : x.quiet.length ≤ 1048576 := by omega
          clear h3
          go_wp2
          go_roundw
          case rel =>
            refine ⟨k + 1, q, by go_num, rfl, by omega, by omega, by omega, fun j hj hjk => ?_, HB2.out⟩
            by_cases e : j = k
            · subst e; rw [← HY.out]; exact h6
            · exact hqs.out j hj (by omega)
          case measure => simp [intOf]; omega
      · go_wp2
        go_ret
        refine ⟨n, rfl, by omega, fun _ => ⟨by omega, fun x hx => ?_⟩, HB.out⟩
        obtain ⟨j, hj, rfl⟩ := List.mem_iff_getElem.1 hx
        exact hqs.out j hj (by omega)
set_option maxHeartbeats 1000000 in
theorem szPart_c (x : Pt) (a : Option Addr) (c : Nat) (left : Int) (w : World) (h : KRows w a x.ents) (h0 : 0 ≤ left) (h1 : left ≤ 1048576) (hm : x.Small maxLen) :
    Calls Try.prog 24 #[x.val a c, .int .i64 left] w (SzRes w left x.ents) := by
  go_enter Try.func24, Try.ntmps24
  go_wp2_with fail
  refine (szKnownS_c x.ents a c left _ (h.below (below_alloc1 _ _) (Nat.le_refl _)) h0 h1 hm.1 hm.2).mono ?_
  rintro e w1 ⟨v, rfl, hv, hq, hb⟩
  have HQ := Lib.hid hq
  have HB := Lib.hid (below_next (below_alloc1 _ _) hb)
  clear hq hb
  by_cases hz : v < 0
  · go_wp2
    go_ret
    exact ⟨-1, rfl, by omega, fun h => by omega, HB.out⟩
  · go_wp2
    go_ret
    exact ⟨v, rfl, hv, HQ.out, HB.out⟩

/-! ### copies -/
set_option maxHeartbeats 2000000 in
theorem toKnown_c (x : Kn) (k : KA) (w : World) (h : Ints w k.qa x.quiet) (hm : x.quiet.length ≤ 1048576) :
    Calls Try.prog 173 #[x.val k] w fun e w' => ∃ k', e = .returned (x.val k') ∧ OwnI w' w.heap.size k'.qa k'.qc x.quiet ∧ Below w.heap.size w w' := by
  go_enter Try.func173, Try.ntmps173
  go_wp2_with fail
  refine (toInt64S_c k.qa k.qc x.quiet _ (h.below (by first | exact below_alloc3 _ _ _ _ | (repeat (first | (with_reducible exact below_alloc3 _ _ _ _) | ((with_reducible refine Below.setCell ?_ ?_ _); rotate_left; (simp <;> omega))))) (Nat.le_refl _)) hm).mono ?_
  rintro e w1 ⟨rfl, ho1, hb1⟩
  obtain ⟨hc1, hf1⟩ := bcell hb1
  simp only [World.size_alloc, World.size_setCell] at hb1 hc1 hf1 ho1
  have hz1 : w.heap.size + 3 ≤ w1.heap.size := by have := hb1.size; simp at this; omega
  have hz1a : w.heap.size < w1.heap.size := by omega
  have hz1b : w.heap.size + 1 < w1.heap.size := by omega
  have hz1c : w.heap.size + 1 + 1 < w1.heap.size := by omega
  have hbw1 : Below w.heap.size w w1 := by
    refine Below.trans ?_ (hb1.mono (by omega))
    repeat (first | (with_reducible exact below_alloc3 _ _ _ _) | ((with_reducible refine Below.setCell ?_ ?_ _); rotate_left; (simp <;> omega)))
  have HO := Lib.hid ho1
  clear ho1
  go_wp2
  refine bodyPost_ret (v := x.val ⟨some ⟨w.heap.size + 1 + 1 + 1, 0, none⟩, x.quiet.length⟩) (by simp [results, Try.results173, go_sem, hc1, hz1a, hz1b, hz1c, Kn.val, Kn.cells]) rfl ⟨_, rfl, ?_, ?_⟩
  · have k0 := HO.out
    refine ownsRow_le (base := w.heap.size + 1 + 1 + 1) ?_ (by omega)
    repeat (first | (with_reducible exact k0) | ((with_reducible refine ownsRow_setCell_below ?_ ?_ _); rotate_left; (simp <;> omega)))
  · repeat (first | (with_reducible exact hbw1) | ((with_reducible refine Below.setCell ?_ ?_ _); rotate_left; (simp <;> omega)))

/-- a list that is read from memory of the call's own -/
def KLies (lo hi : Nat) (a : Option Addr) (l : List (Kn × KA)) (w : World) : Prop := ∀ W : World, (∀ k, lo ≤ k → k < hi → W.heap[k]? = w.heap[k]?) → KRows W a l
def KsRes (w : World) (xs : List Kn) (e : Ending) (w' : World) : Prop := ∃ (l : List (Kn × KA)) (a : Option Addr) (c : Nat), l.map Prod.fst = xs ∧ e = .returned (.slice a l.length c) ∧ KLies w.heap.size w'.heap.size a l w' ∧ Below w.heap.size w w'
theorem infoK : (Try.prog.info? 143).map (fun i => (i.zero, i.size, i.bytes)) = some (some (.agg #[.bool false, .int .i64 0, .bool false, .int .i64 0, .slice none 0 0]), 5, 56) := by kernel_rfl
theorem info_parts5 {e : TypeId} {z : Value} {bytes : Nat} (h : (Try.prog.info? e).map (fun i => (i.zero, i.size, i.bytes)) = some (some z, 5, bytes)) :
    ∃ i, Try.prog.info? e = some i ∧ i.zero = some z ∧ i.size = 5 ∧ i.bytes = bytes := by
  cases hi : Try.prog.info? e with
  | none => rw [hi] at h; cases h
  | some i =>
    rw [hi] at h
    simp only [Option.map_some, Option.some.injEq, Prod.mk.injEq] at h
    exact ⟨i, rfl, h.1, h.2.1, h.2.2⟩
/-- a round of the copy: the first j items stand in block g -/
structure TkSt (w wr : World) (l m : List (Kn × KA)) (j : Nat) (vs : List Value) : Prop where
  jl : j ≤ l.length
  ml : m.map Prod.fst = (l.take j).map Prod.fst
  own : wr.ownsRow w.heap.size 143 5 (.slice (some ⟨w.heap.size, 0, none⟩) l.length l.length) l.length vs
  cells : ∀ (i : Nat), i < j * 5 → vs[i]? = (kcells m)[i]?
  items : ∀ x ∈ m, OwnI wr (w.heap.size + 1) x.2.qa x.2.qc x.1.quiet
  below : Below w.heap.size w wr
theorem TkSt.mlen {w wr : World} {l m : List (Kn × KA)} {j : Nat} {vs : List Value} (h : TkSt w wr l m j vs) : m.length = j := by
  have h1 := congrArg List.length h.ml
  have h2 := h.jl
  simp at h1
  omega
theorem TkSt.next {w wr w2 : World} {l m : List (Kn × KA)} {j : Nat} {vs : List Value} (h : TkSt w wr l m j vs) (hj : j < l.length) (hb : Below wr.heap.size wr w2) {k : KA} (ho : OwnI w2 wr.heap.size k.qa k.qc l[j].1.quiet) :
    TkSt w (((((w2.setCell ⟨w.heap.size, j * 5, none⟩ (.bool l[j].1.fin)).setCell ⟨w.heap.size, j * 5 + 1, none⟩ (.int .i64 l[j].1.en)).setCell ⟨w.heap.size, j * 5 + 2, none⟩ (.bool l[j].1.loud)).setCell ⟨w.heap.size, j * 5 + 3, none⟩ (.int .i64 l[j].1.best)).setCell ⟨w.heap.size, j * 5 + 4, none⟩ (.slice k.qa l[j].1.quiet.length k.qc)) l (m ++ [(l[j].1, k)]) (j + 1)
      (((((vs.set (j * 5) (.bool l[j].1.fin)).set (j * 5 + 1) (.int .i64 l[j].1.en)).set (j * 5 + 2) (.bool l[j].1.loud)).set (j * 5 + 3) (.int .i64 l[j].1.best)).set (j * 5 + 4) (.slice k.qa l[j].1.quiet.length k.qc)) := by
  have hml := h.mlen
  have hvl : vs.length = l.length * 5 := h.own.1
  have hlt := (h.own.lt w.heap.size rfl).2
  have o2 := own_below h.own hb (Nat.le_refl _)
  refine ⟨by omega, ?_, ?_, ?_, ?_, ?_⟩
  · rw [List.map_append, h.ml, List.take_succ_eq_append_getElem hj, List.map_append]
    rfl
  · exact ((((((o2.stored _ _).1).stored _ _).1.stored _ _).1.stored _ _).1.stored _ _).1
  · intro i hi
    have hk : (kcells m).length = j * 5 := by rw [kcells_length, hml]
    rw [kcells_append]
    by_cases h1 : i < j * 5
    · rw [List.getElem?_append_left (by omega), ← h.cells i h1]
      rw [List.getElem?_set_ne (by omega), List.getElem?_set_ne (by omega), List.getElem?_set_ne (by omega), List.getElem?_set_ne (by omega), List.getElem?_set_ne (by omega)]
    · rw [List.getElem?_append_right (by omega), hk]
      obtain ⟨q, hq⟩ : ∃ q, i = j * 5 + q := ⟨i - j * 5, by omega⟩
      subst hq
      rw [show j * 5 + q - j * 5 = q by omega]
      have hq5 : q = 0 ∨ q = 1 ∨ q = 2 ∨ q = 3 ∨ q = 4 := by omega
      rcases hq5 with rfl | rfl | rfl | rfl | rfl
      · rw [List.getElem?_set_ne (by omega), List.getElem?_set_ne (by omega), List.getElem?_set_ne (by omega), List.getElem?_set_ne (by omega), Nat.add_zero, List.getElem?_set_self (by omega)]; rfl
      · rw [List.getElem?_set_ne (by omega), List.getElem?_set_ne (by omega), List.getElem?_set_ne (by omega), List.getElem?_set_self (by simp; omega)]; rfl
      · rw [List.getElem?_set_ne (by omega), List.getElem?_set_ne (by omega), List.getElem?_set_self (by simp; omega)]; rfl
      · rw [List.getElem?_set_ne (by omega), List.getElem?_set_self (by simp; omega)]; rfl
      · rw [List.getElem?_set_self (by simp; omega)]; rfl
  · intro x hx
    have key : ∀ (y : Kn × KA), OwnI w2 (w.heap.size + 1) y.2.qa y.2.qc y.1.quiet → OwnI (((((w2.setCell ⟨w.heap.size, j * 5, none⟩ (.bool l[j].1.fin)).setCell ⟨w.heap.size, j * 5 + 1, none⟩ (.int .i64 l[j].1.en)).setCell ⟨w.heap.size, j * 5 + 2, none⟩ (.bool l[j].1.loud)).setCell ⟨w.heap.size, j * 5 + 3, none⟩ (.int .i64 l[j].1.best)).setCell ⟨w.heap.size, j * 5 + 4, none⟩ (.slice k.qa l[j].1.quiet.length k.qc)) (w.heap.size + 1) y.2.qa y.2.qc y.1.quiet := fun y hy =>
      ownsRow_setCell_below (ownsRow_setCell_below (ownsRow_setCell_below (ownsRow_setCell_below (ownsRow_setCell_below hy (Nat.lt_succ_self _) _) (Nat.lt_succ_self _) _) (Nat.lt_succ_self _) _) (Nat.lt_succ_self _) _) (Nat.lt_succ_self _) _
    rcases List.mem_append.1 hx with hx | hx
    · exact key x (own_below (h.items x hx) hb (Nat.le_refl _))
    · obtain rfl : x = (l[j].1, k) := by simpa using hx
      exact key _ (ownsRow_le ho (by omega))
  · have hb2 := below_next h.below hb
    exact ((((hb2.setCell (Nat.le_refl _) _).setCell (Nat.le_refl _) _).setCell (Nat.le_refl _) _).setCell (Nat.le_refl _) _).setCell (Nat.le_refl _) _
theorem TkSt.done {w wr : World} {l m : List (Kn × KA)} {vs : List Value} (h : TkSt w wr l m l.length vs) : KLies w.heap.size wr.heap.size (some ⟨w.heap.size, 0, none⟩) m wr := by
  have hml := h.mlen
  have hvl : vs.length = l.length * 5 := h.own.1
  have e : kcells m = vs := by
    apply List.ext_getElem?
    intro i
    by_cases hi : i < l.length * 5
    · exact (h.cells i hi).symm
    · rw [List.getElem?_eq_none (by rw [kcells_length]; omega), List.getElem?_eq_none (by omega)]
  intro W hW
  exact ⟨by rw [e]; exact own_row (own_stab (Nat.le_refl _) h.own (fun k hk => (h.own.lt k hk).2) hW), fun x hx => own_row (own_stab (Nat.le_succ _) (h.items x hx) (fun k hk => ((h.items x hx).lt k hk).2) hW)⟩
set_option maxHeartbeats 4000000 in
theorem toKnownS_c (l : List (Kn × KA)) (a : Option Addr) (c : Nat) (w : World) (h : KRows w a l) (hm : l.length ≤ 1048576) (hq : ∀ x ∈ l, x.1.quiet.length ≤ 1048576) :
    Calls Try.prog 113 #[.slice a l.length c] w (KsRes w (l.map Prod.fst)) := by
  obtain ⟨i0, hi, hz0, hz1, hz2⟩ := info_parts5 infoK
  have HK := Lib.hid h
  have HQ := Lib.hid hq
  clear h hq
  go_enter Try.func113, Try.ntmps113
  go_wp2_with (at_make; refine wpList_make_full _ rfl _ _ 46 rfl w.heap.size 143 i0 (.agg #[.bool false, .int .i64 0, .bool false, .int .i64 0, .slice none 0 0]) 5 Try.underlying46 hi hz0 hz1 _ _ _ _ l.length rfl rfl rfl rfl ?c1 ?c2 ?c3 ?_)
  case c1 => rw [hz2]; omega
  case c2 => unfold maxLen; omega
  case c3 => exact Nat.le_refl _
  intro w1 hown hgr
  have hb1 : Below w.heap.size w w1 := (Below.refl _ _).grown hgr (Nat.le_refl _) (fun k h => by cases h)
  have hst0 : ∃ vs, TkSt w w1 l [] 0 vs := ⟨_, Nat.zero_le _, rfl, hown, fun i h => absurd h (by omega), fun x hx => (by cases hx), hb1⟩
  obtain ⟨vs0, hst0⟩ := hst0
  have HST0 := Lib.hid hst0
  clear hz0 hz1 hz2 hgr hown hb1 hst0 hi
  go_wp2
  go_loopw [4] (fun i wr => ∃ (j : Nat) (m : List (Kn × KA)) (vs : List Value), i = .int .i64 j ∧ Hid (TkSt w wr l m j vs)) (fun i _ => l.length - (intOf i).toNat)
  case atStart => exact ⟨0, [], vs0, rfl, HST0⟩
  case round =>
    clear HST0
    obtain ⟨j, m, vs, rfl, hst⟩ := hrel
    have hjl := hst.out.jl
    by_cases hlt : j < l.length
    · obtain ⟨b, off, ha, hb, hat⟩ := (HK.out.below hst.out.below (Nat.le_refl _)).at (k := j) (x := l[j]) (by simp [hlt])
      obtain ⟨c0, c1, c2, c3, c4⟩ := hat
      subst ha
      have HL := Lib.hid (HQ.out l[j] (List.getElem_mem hlt))
      have HI := Lib.hid ((HK.out.items l[j] (List.getElem_mem hlt)).below hst.out.below (Nat.le_refl _))
      have HN := Lib.hid (fun w2 k hb ho => hst.out.next hlt (w2 := w2) (k := k) hb ho)
      obtain ⟨y, hy⟩ : ∃ y, y = l[j] := ⟨_, rfl⟩
      rw [← hy] at c0 c1 c2 c3 c4 HL HI HN
      clear hy
      obtain ⟨x, K⟩ := y
      dsimp only at c0 c1 c2 c3 c4
      go_wp2_with fail
      refine (toKnown_c x K _ HI.out HL.out).mono ?_
      rintro e w2 ⟨k', rfl, ho2, hb2⟩
      have hs2 := HN.out w2 k' hb2 ho2
      have o2 := own_below hst.out.own hb2 (Nat.le_refl _)
      have hvl : vs.length = l.length * 5 := o2.1
      have g0 := o2.cellAt (j * 5) (by omega)
      have g1 := o2.cellAt (j * 5 + 1) (by omega)
      have g2 := o2.cellAt (j * 5 + 2) (by omega)
      have g3 := o2.cellAt (j * 5 + 3) (by omega)
      have g4 := o2.cellAt (j * 5 + 4) (by omega)
      obtain ⟨v0, hv0⟩ : ∃ v, vs[j * 5]? = some v := ⟨_, List.getElem?_eq_getElem (by omega)⟩
      obtain ⟨v1, hv1⟩ : ∃ v, vs[j * 5 + 1]? = some v := ⟨_, List.getElem?_eq_getElem (by omega)⟩
      obtain ⟨v2, hv2⟩ : ∃ v, vs[j * 5 + 2]? = some v := ⟨_, List.getElem?_eq_getElem (by omega)⟩
      obtain ⟨v3, hv3⟩ : ∃ v, vs[j * 5 + 3]? = some v := ⟨_, List.getElem?_eq_getElem (by omega)⟩
      obtain ⟨v4, hv4⟩ : ∃ v, vs[j * 5 + 4]? = some v := ⟨_, List.getElem?_eq_getElem (by omega)⟩
      rw [hv0] at g0
      rw [hv1] at g1
      rw [hv2] at g2
      rw [hv3] at g3
      rw [hv4] at g4
      have gf := fun o => o2.frozenAt o
      have HS2 := Lib.hid hs2
      clear hv0 hv1 hv2 hv3 hv4 hvl o2 hs2 ho2 hb2 c0 c1 c2 c3 c4 HN HI HL
      go_wp2
      go_roundw
      case rel => exact ⟨j + 1, _, _, by go_num, HS2⟩
      case measure => simp [intOf]; omega
    · obtain rfl : j = l.length := by omega
      have hml := Lib.hid hst.out.mlen
      go_wp2
      go_ret
      refine ⟨m, some ⟨w.heap.size, 0, none⟩, l.length, ?_, by rw [hml.out]; rfl, hst.out.done, hst.out.below⟩
      have := hst.out.ml
      rw [List.take_length] at this
      exact this
def PtRes (w : World) (f : Int) (xs : List Kn) (e : Ending) (w' : World) : Prop := ∃ (l : List (Kn × KA)) (a : Option Addr) (c : Nat), l.map Prod.fst = xs ∧ e = .returned ((Pt.mk f l).val a c) ∧ KLies w.heap.size w'.heap.size a l w' ∧ Below w.heap.size w w'
set_option maxHeartbeats 2000000 in
theorem toPart_c (x : Pt) (a : Option Addr) (c : Nat) (w : World) (h : KRows w a x.ents) (hm : x.Small 1048576) :
    Calls Try.prog 26 #[x.val a c] w (PtRes w x.from_ (x.ents.map Prod.fst)) := by
  have HM := Lib.hid hm
  clear hm
  go_enter Try.func26, Try.ntmps26
  go_wp2_with fail
  refine (toKnownS_c x.ents a c _ (h.below (by repeat (first | (with_reducible exact below_alloc3 _ _ _ _) | ((with_reducible refine Below.setCell ?_ ?_ _); rotate_left; (simp <;> omega)))) (Nat.le_refl _)) HM.out.1 HM.out.2).mono ?_
  rintro e w1 ⟨l, a', c', hl, rfl, ho1, hb1⟩
  obtain ⟨hc1, hf1⟩ := bcell hb1
  simp only [World.size_alloc, World.size_setCell] at hb1 hc1 hf1
  have hz1 : w.heap.size + 3 ≤ w1.heap.size := by have := hb1.size; simp at this; omega
  have hz1a : w.heap.size < w1.heap.size := by omega
  have hz1b : w.heap.size + 1 < w1.heap.size := by omega
  have hz1c : w.heap.size + 1 + 1 < w1.heap.size := by omega
  have hbw1 : Below w.heap.size w w1 := by
    refine Below.trans ?_ (hb1.mono (by omega))
    repeat (first | (with_reducible exact below_alloc3 _ _ _ _) | ((with_reducible refine Below.setCell ?_ ?_ _); rotate_left; (simp <;> omega)))
  have HO := Lib.hid ho1
  have HL := Lib.hid hl
  clear ho1 hl
  go_wp2
  refine bodyPost_ret (v := (Pt.mk x.from_ l).val a' c') (by simp [results, Try.results26, go_sem, hc1, hz1a, hz1b, hz1c, Pt.val, Pt.cells]) rfl ⟨l, a', c', HL.out, rfl, ?_, ?_⟩
  · intro W hW
    refine HO.out W (fun k h1 h2 => (hW k (by simp at h1; omega) (by simpa using h2)).trans ?_)
    simp only [World.size_alloc] at h1
    repeat (first | rfl | ((refine (Below.heap_setCell _ _ _ k ?_).trans ?_); (simp; omega)))
  · repeat (first | (with_reducible exact hbw1) | ((with_reducible refine Below.setCell ?_ ?_ _); rotate_left; (simp <;> omega)))

/-! ### equal -/
set_option maxHeartbeats 4000000 in
theorem eqKnown_c (x : Kn) (k m : KA) (w : World) (hx : Ints w k.qa x.quiet) (hy : Ints w m.qa x.quiet) (hm : x.quiet.length ≤ maxLen) :
    Calls Try.prog 174 #[x.val k, x.val m] w fun e w' => e = .returned (.bool true) ∧ Below w.heap.size w w' := by
  go_enter Try.func174, Try.ntmps174
  go_wp2_with fail
  refine (eqInt64S_c _ _ _ _ x.quiet x.quiet _ (hx.below (below_alloc2 _ _ _) (Nat.le_refl _)) (hy.below (below_alloc2 _ _ _) (Nat.le_refl _)) hm hm).mono ?_
  rintro e w' ⟨rfl, n, rfl⟩
  rw [decide_eq_true rfl]
  go_wp2
  go_ret
  exact ⟨rfl, (below_alloc2 _ _ _).trans (below_draws _ _ _)⟩
theorem Kn.At.drew {w : World} {b o : Nat} {x : Kn} {k : KA} (h : Kn.At w b o x k) : Kn.At w.drew b o x k := ⟨h.c0, h.c1, h.c2, h.c3, h.c4⟩
theorem Kn.At.all {w : World} {b o : Nat} {x : Kn} {k : KA} (h : Kn.At w b o x k) : w.cell? ⟨b, o, none⟩ = some (.bool x.fin) ∧ w.cell? ⟨b, o + 1, none⟩ = some (.int .i64 x.en) ∧ w.cell? ⟨b, o + 2, none⟩ = some (.bool x.loud) ∧ w.cell? ⟨b, o + 3, none⟩ = some (.int .i64 x.best) ∧ w.cell? ⟨b, o + 4, none⟩ = some (.slice k.qa x.quiet.length k.qc) := ⟨h.c0, h.c1, h.c2, h.c3, h.c4⟩
theorem fst_get {l m : List (Kn × KA)} (h : l.map Prod.fst = m.map Prod.fst) {k : Nat} (hk : k < l.length) (hk' : k < m.length) : m[k] = (l[k].1, m[k].2) := by
  have h1 : (l.map Prod.fst)[k]? = (m.map Prod.fst)[k]? := by rw [h]
  simp [hk, hk'] at h1
  rw [h1]
set_option maxRecDepth 100000 in
set_option maxHeartbeats 4000000 in
theorem eqKnownS_c (l m : List (Kn × KA)) (a b : Option Addr) (c d : Nat) (w : World) (hl : KRows w a l) (hm : KRows w b m) (he : l.map Prod.fst = m.map Prod.fst) (hn : l.length ≤ 1048576) (hq : ∀ x ∈ l, x.1.quiet.length ≤ maxLen) :
    Calls Try.prog 115 #[.slice a l.length c, .slice b m.length d] w fun e w' => e = .returned (.bool true) ∧ Below w.heap.size w w' := by
  have hlm : m.length = l.length := by have := congrArg List.length he; simpa using this.symm
  have HLM := Lib.hid hlm
  have HL := Lib.hid hl
  have HM := Lib.hid hm
  have HE := Lib.hid he
  have HQ := Lib.hid hq
  rw [hlm]
  clear hl hm he hq hlm
  go_enter Try.func115, Try.ntmps115
  go_wp2_with fail
  go_loopw [5] (fun i wr => ∃ (j : Nat), i = .int .i64 j ∧ j ≤ l.length ∧ Hid (Below w.heap.size w wr)) (fun i _ => l.length - (intOf i).toNat)
  case atStart => exact ⟨0, rfl, Nat.zero_le _, Lib.hid (Below.refl _ _)⟩
  case round =>
    obtain ⟨j, rfl, hj, HB⟩ := hrel
    by_cases hlt : j < l.length
    · have hlt' : j < m.length := by have := HLM.out; omega
      obtain ⟨ab, ao, ha, hab, hA⟩ := (HL.out.below HB.out (Nat.le_refl _)).at (k := j) (x := l[j]) (by simp [hlt])
      obtain ⟨bb, bo, hb, hbb, hB⟩ := (HM.out.below HB.out (Nat.le_refl _)).at (k := j) (x := (l[j].1, m[j].2)) (by rw [← fst_get HE.out hlt hlt']; simp [hlt'])
      subst ha hb
      have HI := Lib.hid ((HL.out.items l[j] (List.getElem_mem hlt)).below HB.out (Nat.le_refl _))
      have HJ := Lib.hid ((HM.out.items m[j] (List.getElem_mem hlt')).below HB.out (Nat.le_refl _))
      rw [fst_get HE.out hlt hlt'] at HJ
      have HN := Lib.hid (HQ.out l[j] (List.getElem_mem hlt))
      obtain ⟨y, hy⟩ : ∃ y, y = l[j] := ⟨_, rfl⟩
      obtain ⟨M, hM⟩ : ∃ y, y = m[j].2 := ⟨_, rfl⟩
      rw [← hy] at hA hB HI HJ HN
      rw [← hM] at hB HJ
      clear hy hM
      obtain ⟨x, KX⟩ := y
      dsimp only at hA hB HI HJ HN
      have HA := Lib.hid hA
      have HBB := Lib.hid hB
      have q0 := hA.all
      have q1 := hB.all
      clear hA hB
      go_upto_region 6 with fail
      refine heldH (S := fun W => (W.cell? ⟨ab, ao + j * 5, none⟩ = some (.bool x.fin) ∧ W.cell? ⟨ab, ao + j * 5 + 1, none⟩ = some (.int .i64 x.en) ∧ W.cell? ⟨ab, ao + j * 5 + 2, none⟩ = some (.bool x.loud) ∧ W.cell? ⟨ab, ao + j * 5 + 3, none⟩ = some (.int .i64 x.best) ∧ W.cell? ⟨ab, ao + j * 5 + 4, none⟩ = some (.slice KX.qa x.quiet.length KX.qc)) ∧ (W.cell? ⟨bb, bo + j * 5, none⟩ = some (.bool x.fin) ∧ W.cell? ⟨bb, bo + j * 5 + 1, none⟩ = some (.int .i64 x.en) ∧ W.cell? ⟨bb, bo + j * 5 + 2, none⟩ = some (.bool x.loud) ∧ W.cell? ⟨bb, bo + j * 5 + 3, none⟩ = some (.int .i64 x.best) ∧ W.cell? ⟨bb, bo + j * 5 + 4, none⟩ = some (.slice M.qa x.quiet.length M.qc))) (n := 10) (listed := #[false, false, false, false, false, false, false, false, false, false]) (by kernel_rfl) (by rfl) (by rfl) ?_ (fun hHeld => ?_)
      (focus ((try dsimp only); (first | done | ((first | exact ⟨(HA.out.drew.below hb2 (by assumption)).all, (HBB.out.drew.below hb2 (by assumption)).all⟩ | exact ⟨q0, q1⟩); done))))
      (refine takeH (i := 0) (v := ?_) (by decide +kernel) (by decide +kernel) (by kernel_rfl) (by rfl) (by exact fun _ _ _ h => h) (by rfl) ?_ (by assumption) ?_); rotate_left; (focus (intro w hSw; (try dsimp only at hSw); go_simp; (try with_reducible rfl); done)); (try simp only [Act.put, List.setIfInBounds_toArray, List.set_cons_zero, List.set_cons_succ])
      (refine takeH (i := 1) (v := ?_) (by decide +kernel) (by decide +kernel) (by kernel_rfl) (by rfl) (by exact fun _ _ _ h => h) (by rfl) ?_ (by assumption) ?_); rotate_left; (focus (intro w hSw; (try dsimp only at hSw); go_simp; (try with_reducible rfl); done)); (try simp only [Act.put, List.setIfInBounds_toArray, List.set_cons_zero, List.set_cons_succ])
      (refine takeH (i := 2) (v := ?_) (by decide +kernel) (by decide +kernel) (by kernel_rfl) (by rfl) (by exact fun _ _ _ h => h) (by rfl) ?_ (by assumption) ?_); rotate_left; (focus (intro w hSw; (try dsimp only at hSw); go_simp; (try with_reducible rfl); done)); (try simp only [Act.put, List.setIfInBounds_toArray, List.set_cons_zero, List.set_cons_succ])
      (refine takeH (i := 3) (v := ?_) (by decide +kernel) (by decide +kernel) (by kernel_rfl) (by rfl) (by exact fun _ _ _ h => h) (by rfl) ?_ (by assumption) ?_); rotate_left; (focus (intro w hSw; (try dsimp only at hSw); go_simp; (try with_reducible rfl); done)); (try simp only [Act.put, List.setIfInBounds_toArray, List.set_cons_zero, List.set_cons_succ])
      (refine takeH (i := 4) (v := ?_) (by decide +kernel) (by decide +kernel) (by kernel_rfl) (by rfl) (by exact fun _ _ _ h => h) (by rfl) ?_ (by assumption) ?_); rotate_left; (focus (intro w hSw; (try dsimp only at hSw); go_simp; (try with_reducible rfl); done)); (try simp only [Act.put, List.setIfInBounds_toArray, List.set_cons_zero, List.set_cons_succ])
      (refine takeH (i := 5) (v := ?_) (by decide +kernel) (by decide +kernel) (by kernel_rfl) (by rfl) (by exact fun _ _ _ h => h) (by rfl) ?_ (by assumption) ?_); rotate_left; (focus (intro w hSw; (try dsimp only at hSw); go_simp; (try with_reducible rfl); done)); (try simp only [Act.put, List.setIfInBounds_toArray, List.set_cons_zero, List.set_cons_succ])
      (refine takeH (i := 6) (v := ?_) (by decide +kernel) (by decide +kernel) (by kernel_rfl) (by rfl) (by exact fun _ _ _ h => h) (by rfl) ?_ (by assumption) ?_); rotate_left; (focus (intro w hSw; (try dsimp only at hSw); go_simp; (try with_reducible rfl); done)); (try simp only [Act.put, List.setIfInBounds_toArray, List.set_cons_zero, List.set_cons_succ])
      (refine takeH (i := 7) (v := ?_) (by decide +kernel) (by decide +kernel) (by kernel_rfl) (by rfl) (by exact fun _ _ _ h => h) (by rfl) ?_ (by assumption) ?_); rotate_left; (focus (intro w hSw; (try dsimp only at hSw); go_simp; (try with_reducible rfl); done)); (try simp only [Act.put, List.setIfInBounds_toArray, List.set_cons_zero, List.set_cons_succ])
      refine nextH (i := 8) (by decide +kernel) (by rfl) (by rfl) (fun K hK => ?_)
      go_simp
      (go_at_call 174; (refine (eqKnown_c x KX M _ HI.out.drew HJ.out.drew HN.out).mono ?_); (rintro e w2 ⟨rfl, hb2⟩))
      refine hK.out _ _ ?_ (fun hHeld' => ?_)
      (focus ((try dsimp only); (first | done | ((first | exact ⟨(HA.out.drew.below hb2 (by assumption)).all, (HBB.out.drew.below hb2 (by assumption)).all⟩ | exact ⟨q0, q1⟩); done))))
      clear hK K hHeld
      have hHeld := hHeld'
      clear hHeld'
      (try simp only [Act.put, List.setIfInBounds_toArray, List.set_cons_zero, List.set_cons_succ])
      (refine takeH (i := 9) (v := ?_) (by decide +kernel) (by decide +kernel) (by kernel_rfl) (by rfl) (by exact fun _ _ _ h => h) (by rfl) ?_ (by assumption) ?_); rotate_left; (focus (intro w hSw; (try dsimp only at hSw); go_simp; (try with_reducible rfl); done)); (try simp only [Act.put, List.setIfInBounds_toArray, List.set_cons_zero, List.set_cons_succ])
      refine wpAnyH_done (by decide +kernel) ?_ _
      have HB2 := Lib.hid (below_next HB.out.drew hb2)
      clear hHeld q0 q1 hb2 HB HI HJ HA HBB
      go_wp2
      go_roundw
      case rel => exact ⟨j + 1, by go_num, by omega, HB2⟩
      case measure => simp [intOf]; omega
    · go_wp2
      go_ret
      exact ⟨rfl, HB.out⟩
set_option maxHeartbeats 4000000 in
theorem eqPart_c (x y : Pt) (a b : Option Addr) (c d : Nat) (w : World) (hl : KRows w a x.ents) (hm : KRows w b y.ents) (he : x.Same y) (hs : x.Small 1048576) :
    Calls Try.prog 28 #[x.val a c, y.val b d] w fun e w' => e = .returned (.bool true) ∧ Below w.heap.size w w' := by
  obtain ⟨xf, xe⟩ := x
  obtain ⟨yf, ye⟩ := y
  obtain ⟨e1, e2⟩ := he
  dsimp only at e1 e2 hl hm
  subst e1
  have HS := Lib.hid hs
  have HE := Lib.hid e2
  clear hs e2
  go_enter Try.func28, Try.ntmps28
  go_wp2_with fail
  refine (eqKnownS_c xe ye a b c d _ (hl.below (below_alloc2 _ _ _) (Nat.le_refl _)) (hm.below (below_alloc2 _ _ _) (Nat.le_refl _)) HE.out HS.out.1 (fun x hx => by have := HS.out.2 x hx; unfold maxLen; omega)).mono ?_
  rintro e w' ⟨rfl, hb⟩
  have HB := Lib.hid (below_next (below_alloc2 _ _ _) hb)
  clear hb
  go_wp2
  go_ret
  exact ⟨rfl, HB.out⟩

/-! ### compared -/
def sameK (x y : Pt) : Bool := decide (x.Same y)
theorem sameK_len {x y : Pt} (h : ¬ x.ents.length = y.ents.length) : sameK x y = false := decide_eq_false (fun e => h (by have := congrArg List.length e.2; simpa using this))
theorem sameK_ne {f : Int} {l m : List (Kn × KA)} {j : Nat} (hj : j < l.length) (hj' : j < m.length) (h : ¬ l[j].1 = m[j].1) : sameK ⟨f, l⟩ ⟨f, m⟩ = false := decide_eq_false (fun e => h (by
  have h1 : (l.map Prod.fst)[j]? = (m.map Prod.fst)[j]? := by rw [e.2]
  simpa [hj, hj'] using h1))
theorem sameK_all {f : Int} {l m : List (Kn × KA)} (hl : l.length = m.length) (h : ∀ (j : Nat) (h1 : j < l.length) (h2 : j < m.length), l[j].1 = m[j].1) : sameK ⟨f, l⟩ ⟨f, m⟩ = true := decide_eq_true ⟨rfl, by
  apply List.ext_getElem (by simpa using hl)
  intro j h1 h2
  simp at h1 h2 ⊢
  exact h j h1 h2⟩
theorem kn_cases (x y : Kn) : x = y ∨ (¬ x = y ∧ ((x.fin != y.fin) = true ∨ ((x.fin != y.fin) = false ∧ (x.en != y.en) = true) ∨ ((x.fin != y.fin) = false ∧ (x.en != y.en) = false ∧ (x.loud != y.loud) = true) ∨
    ((x.fin != y.fin) = false ∧ (x.en != y.en) = false ∧ (x.loud != y.loud) = false ∧ (x.best != y.best) = true) ∨ ((x.fin != y.fin) = false ∧ (x.en != y.en) = false ∧ (x.loud != y.loud) = false ∧ (x.best != y.best) = false ∧ decide (x.quiet = y.quiet) = false))) := by
  by_cases h : x = y
  · exact .inl h
  · refine .inr ⟨h, ?_⟩
    obtain ⟨a, b, c, d, e⟩ := x
    obtain ⟨a', b', c', d', e'⟩ := y
    simp only [bne_iff_ne, ne_eq, bne_eq_false_iff_eq, decide_eq_false_iff_not]
    by_cases h1 : a = a' <;> by_cases h2 : b = b' <;> by_cases h3 : c = c' <;> by_cases h4 : d = d' <;> by_cases h5 : e = e' <;> simp_all
set_option maxRecDepth 100000 in
set_option maxHeartbeats 8000000 in
theorem iSamePart_c (x y : Pt) (a b : Option Addr) (c d : Nat) (w : World) (hl : KRows w a x.ents) (hm : KRows w b y.ents) (hs : x.Small 1048576) (hs' : y.Small 1048576) :
    Calls Try.prog 27 #[x.val a c, y.val b d] w fun e w' => e = .returned (.bool (sameK x y)) ∧ Below w.heap.size w w' := by
  obtain ⟨z, hz⟩ : ∃ z, z = sameK x y := ⟨_, rfl⟩
  rw [← hz]
  by_cases hf : x.from_ = y.from_
  case neg =>
    have hd : (x.from_ != y.from_) = true := by simpa using hf
    have HZ : Hid (z = false) := by unfold Hid; rw [hz]; exact decide_eq_false (fun e => hf e.1)
    clear hf hz
    go_enter Try.func27, Try.ntmps27
    go_wp2
    go_ret
    exact ⟨by rw [HZ.out]; rfl, below_alloc2 _ _ _⟩
  obtain ⟨xf, l⟩ := x
  obtain ⟨yf, m⟩ := y
  dsimp only at hf hl hm
  subst hf
  have HL := Lib.hid hl
  have HM := Lib.hid hm
  obtain ⟨s1, s2⟩ := hs
  obtain ⟨s3, s4⟩ := hs'
  dsimp only at s1 s3
  have HS2 := Lib.hid s2
  have HS4 := Lib.hid s4
  clear hl hm s2 s4
  by_cases hln : l.length = m.length
  case neg =>
    have hd : ((l.length : Int) != (m.length : Int)) = true := by rw [bne_iff_ne]; omega
    have HZ : Hid (z = false) := by unfold Hid; rw [hz]; exact sameK_len hln
    clear hln hz
    go_enter Try.func27, Try.ntmps27
    go_wp2
    go_ret
    exact ⟨by rw [HZ.out]; rfl, below_alloc2 _ _ _⟩
  have HN := Lib.hid hln
  have HZ := Lib.hid hz
  have hd : ((l.length : Int) != (m.length : Int)) = false := by rw [bne_eq_false_iff_eq]; omega
  clear hln hz
  have hP := ((below_alloc2 w (.cells #[.int .i64 xf, .slice a l.length c] 48) (.cells #[.int .i64 xf, .slice b m.length d] 48)))
  go_enter Try.func27, Try.ntmps27
  go_wp2_with fail
  go_loopw [25] (fun i wr => ∃ (j : Nat), i = .int .i64 j ∧ j ≤ l.length ∧ Hid (∀ (q : Nat) (h1 : q < l.length) (h2 : q < m.length), q < j → l[q].1 = m[q].1) ∧ wr.cell? ⟨w.heap.size + 1, 1, none⟩ = some (.slice b m.length d) ∧ Hid (Below w.heap.size w wr) ∧ w.heap.size + 2 ≤ wr.heap.size) (fun i _ => l.length - (intOf i).toNat)
  case atStart => exact ⟨0, rfl, Nat.zero_le _, fun q _ _ h => absurd h (by omega), by simp, Lib.hid hP, by simp⟩
  case round =>
    clear hP
    obtain ⟨j, rfl, hj, HQ, k1, HB, hsz⟩ := hrel
    by_cases hlt : j < l.length
    · have hlt' : j < m.length := by have := HN.out; omega
      obtain ⟨ab, ao, ha, hab, hA⟩ := (HL.out.below HB.out (Nat.le_refl _)).at (k := j) (x := l[j]) (by simp [hlt])
      obtain ⟨bb, bo, hb, hbb, hB⟩ := (HM.out.below HB.out (Nat.le_refl _)).at (k := j) (x := m[j]) (by simp [hlt'])
      subst ha hb
      have HI := Lib.hid ((HL.out.items l[j] (List.getElem_mem hlt)).below HB.out (Nat.le_refl _))
      have HJ := Lib.hid ((HM.out.items m[j] (List.getElem_mem hlt')).below HB.out (Nat.le_refl _))
      have HN1 := Lib.hid (HS2.out l[j] (List.getElem_mem hlt))
      have HN2 := Lib.hid (HS4.out m[j] (List.getElem_mem hlt'))
      have HNE : Hid (¬ l[j].1 = m[j].1 → z = false) := fun h => by rw [HZ.out]; exact sameK_ne hlt hlt' h
      have HEQ : Hid (l[j].1 = m[j].1 → ∀ (q : Nat) (h1 : q < l.length) (h2 : q < m.length), q < j + 1 → l[q].1 = m[q].1) := fun h q h1 h2 h3 => by
        by_cases e : q = j
        · subst e; exact h
        · exact HQ.out q h1 h2 (by omega)
      obtain ⟨u, hu⟩ : ∃ y, y = l[j] := ⟨_, rfl⟩
      obtain ⟨v, hv⟩ : ∃ y, y = m[j] := ⟨_, rfl⟩
      rw [← hu] at hA HI HN1 HNE HEQ
      rw [← hv] at hB HJ HN2 HNE HEQ
      clear hu hv
      obtain ⟨x, KX⟩ := u
      obtain ⟨y, M⟩ := v
      dsimp only at hA hB HI HJ HN1 HN2 HNE HEQ
      obtain ⟨a0, a1, a2, a3, a4⟩ := hA
      obtain ⟨b0, b1, b2, b3, b4⟩ := hB
      have zz : w.heap.size + 1 < wr.heap.size := by omega
      rcases kn_cases x y with he | ⟨hne, hcs⟩
      · subst he
        have HQ2 := Lib.hid (HEQ.out rfl)
        have h2 := below_alloc2 wr (.cells (x.cells KX) 143) (.cells (x.cells M) 143)
        have HBL := Lib.hid h2
        clear HNE HEQ h2
        go_wp2_with fail
        refine (sameNumbers_c KX.qa M.qa KX.qc M.qc x.quiet x.quiet _ (HI.out.below HBL.out (Nat.le_refl _)) (HJ.out.below HBL.out (Nat.le_refl _)) (by have := HN1.out; unfold maxLen; omega) (by have := HN1.out; unfold maxLen; omega)).mono ?_
        rintro e w2 ⟨rfl, n, rfl⟩
        rw [decide_eq_true rfl]
        have HB3 := Lib.hid (below_next HB.out (HBL.out.trans (below_draws _ _ n)))
        have hk1 := ((bcell (HBL.out.trans (below_draws _ _ n))).1 (w.heap.size + 1) 1 zz).trans k1
        have hz3 : w.heap.size + 2 ≤ (((wr.alloc (.cells (x.cells KX) 143)).alloc (.cells (x.cells M) 143)).drewN n).heap.size := by simp; omega
        generalize hw3 : ((wr.alloc (.cells (x.cells KX) 143)).alloc (.cells (x.cells M) 143)).drewN n = w3 at HB3 hk1 hz3 ⊢
        clear hw3 HBL HI HJ a0 a1 a2 a3 a4 b0 b1 b2 b3 b4 k1 HQ
        go_wp2
        go_roundw
        case rel => exact ⟨j + 1, by go_num, by omega, HQ2, hk1, HB3, hz3⟩
        case measure => simp [intOf]; omega
      · have hzf := HNE.out hne
        subst hzf
        clear hne HNE HEQ
        rcases hcs with hc1 | ⟨hc1, hc2⟩ | ⟨hc1, hc2, hc3⟩ | ⟨hc1, hc2, hc3, hc4⟩ | ⟨hc1, hc2, hc3, hc4, hc5⟩
        case inr.inr.inr.inr =>
          have HC5 := Lib.hid hc5
          clear hc5
          go_wp2_with fail
          all_goals first
            | (exfalso; simp_all; done)
            | ((refine (sameNumbers_c KX.qa M.qa KX.qc M.qc x.quiet y.quiet _ (HI.out.below (below_alloc2 _ _ _) (Nat.le_refl _)) (HJ.out.below (below_alloc2 _ _ _) (Nat.le_refl _)) (by have := HN1.out; unfold maxLen; omega) (by have := HN2.out; unfold maxLen; omega)).mono ?_); (rintro e w2 ⟨rfl, n, rfl⟩); rw [HC5.out]; go_wp2; go_ret; exact ⟨rfl, (below_next HB.out (below_alloc2 _ _ _)).trans (below_draws _ _ n)⟩)
        all_goals
          go_wp2
          all_goals first
            | (go_ret; exact ⟨rfl, below_next HB.out (below_alloc2 _ _ _)⟩)
            | (exfalso; simp_all; done)
    · have hzt : z = true := by
        rw [HZ.out]
        exact sameK_all HN.out (fun q h1 h2 => HQ.out q h1 h2 (by omega))
      subst hzt
      go_wp2
      go_ret
      exact ⟨rfl, HB.out⟩

theorem kn_cases2 (x y : Kn) : x = y ∨ (¬ x = y ∧ (¬ x.fin = y.fin ∨ (x.fin = y.fin ∧ ¬ x.en = y.en) ∨ (x.fin = y.fin ∧ x.en = y.en ∧ ¬ x.loud = y.loud) ∨
    (x.fin = y.fin ∧ x.en = y.en ∧ x.loud = y.loud ∧ ¬ x.best = y.best) ∨ (x.fin = y.fin ∧ x.en = y.en ∧ x.loud = y.loud ∧ x.best = y.best ∧ ¬ x.quiet = y.quiet))) := by
  by_cases h : x = y
  · exact .inl h
  · refine .inr ⟨h, ?_⟩
    obtain ⟨a, b, c, d, e⟩ := x
    obtain ⟨a', b', c', d', e'⟩ := y
    dsimp only
    by_cases h1 : a = a'
    · subst h1
      by_cases h2 : b = b'
      · subst h2
        by_cases h3 : c = c'
        · subst h3
          by_cases h4 : d = d'
          · subst h4
            exact .inr (.inr (.inr (.inr ⟨rfl, rfl, rfl, rfl, fun e => h (by rw [e])⟩)))
          · exact .inr (.inr (.inr (.inl ⟨rfl, rfl, rfl, h4⟩)))
        · exact .inr (.inr (.inl ⟨rfl, rfl, h3⟩))
      · exact .inr (.inl ⟨rfl, h2⟩)
    · exact .inl h1
set_option maxRecDepth 100000 in
set_option maxHeartbeats 16000000 in
theorem sSamePart_c (x y : Pt) (a b : Option Addr) (c d : Nat) (w : World) (hl : KRows w a x.ents) (hm : KRows w b y.ents) (hs : x.Small 1048576) (hs' : y.Small 1048576) :
    Calls Try.prog 25 #[x.val a c, y.val b d] w fun e w' => e = .returned (.bool (sameK x y)) ∧ Below w.heap.size w w' := by
  obtain ⟨z, hz⟩ : ∃ z, z = sameK x y := ⟨_, rfl⟩
  rw [← hz]
  by_cases hf : x.from_ = y.from_
  case neg =>
    have hd : (x.from_ != y.from_) = true := by simpa using hf
    have HZ : Hid (z = false) := by unfold Hid; rw [hz]; exact decide_eq_false (fun e => hf e.1)
    clear hf hz
    go_enter Try.func25, Try.ntmps25
    go_wp2
    go_ret
    exact ⟨by rw [HZ.out]; rfl, below_alloc2 _ _ _⟩
  obtain ⟨xf, l⟩ := x
  obtain ⟨yf, m⟩ := y
  dsimp only at hf hl hm
  subst hf
  obtain ⟨s1, s2⟩ := hs
  obtain ⟨s3, s4⟩ := hs'
  dsimp only at s1 s3
  have HS2 := Lib.hid s2
  have HS4 := Lib.hid s4
  clear s2 s4
  by_cases hln : l.length = m.length
  case neg =>
    have hd : ((l.length : Int) != (m.length : Int)) = true := by rw [bne_iff_ne]; omega
    have HZ : Hid (z = false) := by unfold Hid; rw [hz]; exact sameK_len hln
    clear hln hz hl hm
    go_enter Try.func25, Try.ntmps25
    go_wp2
    go_ret
    exact ⟨by rw [HZ.out]; rfl, below_alloc2 _ _ _⟩
  have HN := Lib.hid hln
  have HZ := Lib.hid hz
  have hd : ((l.length : Int) != (m.length : Int)) = false := by rw [bne_eq_false_iff_eq]; omega
  clear hln hz
  have HP := Lib.hid ((below_alloc2 w (.cells #[.int .i64 xf, .slice a l.length c] 48) (.cells #[.int .i64 xf, .slice b m.length d] 48)))
  have HL := Lib.hid (hl.below HP.out (Nat.le_refl _))
  have HM := Lib.hid (hm.below HP.out (Nat.le_refl _))
  clear hl hm
  go_enter Try.func25, Try.ntmps25
  go_wp2_with fail
  go_loopw [5] (fun i wr => ∃ (j n : Nat), i = .int .i64 j ∧ j ≤ l.length ∧ Hid (∀ (q : Nat) (h1 : q < l.length) (h2 : q < m.length), q < j → l[q].1 = m[q].1) ∧ Hid (wr = ((w.alloc (.cells #[.int .i64 xf, .slice a l.length c] 48)).alloc (.cells #[.int .i64 xf, .slice b m.length d] 48)).drewN n)) (fun i _ => l.length - (intOf i).toNat)
  case atStart => exact ⟨0, 0, rfl, Nat.zero_le _, fun q _ _ h => absurd h (by omega), Lib.hid rfl⟩
  case round =>
    obtain ⟨j, n, rfl, hj, HQ, HWR⟩ := hrel
    have e1 : wr.cell? ⟨w.heap.size, 0, none⟩ = some (.int .i64 xf) := by rw [HWR.out]; simp
    have e2 : wr.cell? ⟨w.heap.size, 1, none⟩ = some (.slice a l.length c) := by rw [HWR.out]; simp
    have e3 : wr.cell? ⟨w.heap.size + 1, 1, none⟩ = some (.slice b m.length d) := by rw [HWR.out]; simp
    by_cases hlt : j < l.length
    · have hlt' : j < m.length := by have := HN.out; omega
      obtain ⟨ab, ao, ha, hab, hA⟩ := (show KRows wr a l from by rw [HWR.out]; exact HL.out.below (below_draws _ _ n) (Nat.le_refl _)).at (k := j) (x := l[j]) (by simp [hlt])
      obtain ⟨bb, bo, hb, hbb, hB⟩ := (show KRows wr b m from by rw [HWR.out]; exact HM.out.below (below_draws _ _ n) (Nat.le_refl _)).at (k := j) (x := m[j]) (by simp [hlt'])
      subst ha hb
      have HI : Hid (Ints wr l[j].2.qa l[j].1.quiet) := by unfold Hid; rw [HWR.out]; exact HL.out.items l[j] (List.getElem_mem hlt)
      have HJ : Hid (Ints wr m[j].2.qa m[j].1.quiet) := by unfold Hid; rw [HWR.out]; exact HM.out.items m[j] (List.getElem_mem hlt')
      have HN1 := Lib.hid (HS2.out l[j] (List.getElem_mem hlt))
      have HN2 := Lib.hid (HS4.out m[j] (List.getElem_mem hlt'))
      have HNE : Hid (¬ l[j].1 = m[j].1 → z = false) := fun h => by rw [HZ.out]; exact sameK_ne hlt hlt' h
      have HEQ : Hid (l[j].1 = m[j].1 → ∀ (q : Nat) (h1 : q < l.length) (h2 : q < m.length), q < j + 1 → l[q].1 = m[q].1) := fun h q h1 h2 h3 => by
        by_cases e : q = j
        · subst e; exact h
        · exact HQ.out q h1 h2 (by omega)
      obtain ⟨u, hu⟩ : ∃ y, y = l[j] := ⟨_, rfl⟩
      obtain ⟨v, hv⟩ : ∃ y, y = m[j] := ⟨_, rfl⟩
      rw [← hu] at hA HI HN1 HNE HEQ
      rw [← hv] at hB HJ HN2 HNE HEQ
      clear hu hv
      obtain ⟨x, KX⟩ := u
      obtain ⟨y, M⟩ := v
      dsimp only at hA hB HI HJ HN1 HN2 HNE HEQ
      rcases kn_cases2 x y with he | ⟨hne, hcs⟩
      · subst he
        obtain ⟨a0, a1, a2, a3, a4⟩ := hA
        obtain ⟨b0, b1, b2, b3, b4⟩ := hB
        have HQ2 := Lib.hid (HEQ.out rfl)
        have HC : Hid (∀ n, Calls Try.prog 112 #[.slice KX.qa x.quiet.length KX.qc, .slice M.qa x.quiet.length M.qc] (wr.drewN n) fun e w' => e = .returned (.bool true) ∧ ∃ m, w' = (wr.drewN n).drewN m) := fun n => by
          have := l00Same_c KX.qa M.qa KX.qc M.qc x.quiet x.quiet (wr.drewN n) HI.out HJ.out (by have := HN1.out; unfold maxLen; omega) (by have := HN1.out; unfold maxLen; omega)
          rw [decide_eq_true rfl] at this
          exact this
        clear HNE HEQ
        go_wp2
        go_quiet ((go_at_call 112; (with_reducible exact Calls.quiet_of (HC.out _))))
        go_wp2
        go_roundw
        case rel => exact ⟨j + 1, _, by go_num, by omega, HQ2, by unfold Hid; rw [HWR.out]; exact World.drewN_drewN ..⟩
        case measure => simp [intOf]; omega
      · have hzf := HNE.out hne
        subst hzf
        clear hne HNE HEQ
        obtain ⟨xf1, xe, xl, xb, xq⟩ := x
        obtain ⟨yf1, ye, yl, yb, yq⟩ := y
        dsimp only at hcs
        have hB0 : ∀ n, Below w.heap.size w (wr.drewN n) := fun k => by rw [HWR.out]; exact (HP.out.trans (below_draws _ _ n)).trans (below_draws _ _ k)
        have HB0 := Lib.hid hB0
        clear hB0
        rcases hcs with hc1 | ⟨rfl, hc2⟩ | ⟨rfl, rfl, hc3⟩ | ⟨rfl, rfl, rfl, hc4⟩ | ⟨rfl, rfl, rfl, rfl, hc5⟩
        · obtain ⟨a0, a1, a2, a3, a4⟩ := hA
          obtain ⟨b0, b1, b2, b3, b4⟩ := hB
          dsimp only at a0 a1 a2 a3 a4 b0 b1 b2 b3 b4
          cases xf1 <;> cases yf1 <;> first
            | exact absurd rfl hc1
            | (clear hc1; go_wp2; go_quiet (fail); go_wp2; go_ret; exact ⟨rfl, HB0.out _⟩)
        · obtain ⟨a0, a1, a2, a3, a4⟩ := hA
          obtain ⟨b0, b1, b2, b3, b4⟩ := hB
          dsimp only at a0 a1 a2 a3 a4 b0 b1 b2 b3 b4
          have hc : (xe != ye) = true := by simpa using hc2
          clear hc2
          go_wp2
          go_quiet (fail)
          go_wp2
          go_ret
          exact ⟨rfl, HB0.out _⟩
        · obtain ⟨a0, a1, a2, a3, a4⟩ := hA
          obtain ⟨b0, b1, b2, b3, b4⟩ := hB
          dsimp only at a0 a1 a2 a3 a4 b0 b1 b2 b3 b4
          cases xl <;> cases yl <;> first
            | exact absurd rfl hc3
            | (clear hc3; go_wp2; go_quiet (fail); go_wp2; go_ret; exact ⟨rfl, HB0.out _⟩)
        · obtain ⟨a0, a1, a2, a3, a4⟩ := hA
          obtain ⟨b0, b1, b2, b3, b4⟩ := hB
          dsimp only at a0 a1 a2 a3 a4 b0 b1 b2 b3 b4
          have hc : (xb != yb) = true := by simpa using hc4
          clear hc4
          go_wp2
          go_quiet (fail)
          go_wp2
          go_ret
          exact ⟨rfl, HB0.out _⟩
        · obtain ⟨a0, a1, a2, a3, a4⟩ := hA
          obtain ⟨b0, b1, b2, b3, b4⟩ := hB
          dsimp only at a0 a1 a2 a3 a4 b0 b1 b2 b3 b4
          have HC : Hid (∀ n, Calls Try.prog 112 #[.slice KX.qa xq.length KX.qc, .slice M.qa yq.length M.qc] (wr.drewN n) fun e w' => e = .returned (.bool false) ∧ ∃ m, w' = (wr.drewN n).drewN m) := fun n => by
            have := l00Same_c KX.qa M.qa KX.qc M.qc xq yq (wr.drewN n) HI.out HJ.out (by have := HN1.out; unfold maxLen; dsimp only at this; omega) (by have := HN2.out; unfold maxLen; dsimp only at this; omega)
            rw [decide_eq_false hc5] at this
            exact this
          clear hc5
          go_wp2
          go_quiet ((go_at_call 112; (with_reducible exact Calls.quiet_of (HC.out _))))
          go_wp2
          go_ret
          exact ⟨rfl, HB0.out _⟩
    · have hzt : z = true := by
        rw [HZ.out]
        exact sameK_all HN.out (fun q h1 h2 => HQ.out q h1 h2 (by omega))
      subst hzt
      go_wp2
      go_ret
      rw [HWR.out]
      exact ⟨rfl, HP.out.trans (below_draws _ _ n)⟩

end Go.Proofs.Ytbjdfgfebepacaa
