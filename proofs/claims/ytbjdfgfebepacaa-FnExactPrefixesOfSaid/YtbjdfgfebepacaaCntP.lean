/- CntP: lines of moves, counted, in plain terms; an append that surely makes a new row, inside a region that draws its order. Each fact holds under the premises that it states. -/
import Derived.Test.YtbjdfgfebepacaaLine
import Derived.Deep.AppendLies
import Derived.Test.YtbjdfgfebepacaaSrch1
import Derived.Test.YtbjdfgfebepacaaSrS
namespace Go.Proofs.Ytbjdfgfebepacaa
set_option linter.unusedSimpArgs false
set_option linter.unusedVariables false
set_option linter.unnecessarySimpa false
open Go.RowKit Go.ChangeShapes Go.WideShapes Go.ChangeAt Go.Joins

theorem wp_append_grows {P : Program} (w : World) {o : Oper} {a : Act} {K : Act → World → Prop} {Q : Exit → Act → World → Prop}
    (s x : Operand) (t : TypeId) (hop : o.op = Op.call { callee := Callee.builtin Builtin.append, args := #[s, x], argTypes := #[t, t] })
    (e : TypeId) (i : TypeInfo) (z : Value) (size bytes : Nat) (h1 : P.underlying t = some (.slice e)) (h2 : P.info? e = some i) (h3 : i.zero = some z) (h4 : i.size = size) (h5 : i.bytes = bytes) (h6 : z.cells.size = size) (h7 : 0 < size)
    (ao : Option Addr) (n cap : Nat) (olds : List Value) (hs : a.eval s = .slice ao n cap) (hnone : ao = none → n = 0 ∧ cap = 0) (hlo : olds.length = n * size) (holds : ∀ b, ao = some b → ∀ j u, olds[j]? = some u → w.cell? (b.add j) = some u)
    (ad : Addr) (m c : Nat) (news : List Value) (hx : a.eval x = .slice (some ad) m c) (hn : news.length = m * size) (hc : ∀ j u, news[j]? = some u → w.cell? (ad.add j) = some u) (h1c : ∀ u ∈ news, u.oneCell' = true)
    (hfull : cap < n + m) (b1 : n + m ≤ maxLen) (b2 : (n + m) * bytes ≤ 140737488355328)
    (hK : ∀ ad' c' w', w'.ownsRow w.heap.size e size (.slice ad' (n + m) c') (n + m) (olds ++ news) → w.grownBy w' none → K (a.put o.dst (.slice ad' (n + m) c')) w') :
    o.wp P a w K Q := by
  cases ao with
  | some b =>
    obtain ⟨v', w', hrun, r1, r2⟩ := run_append_arg_grows (P := P) w t o.type e i z size bytes h1 h2 h3 h4 h5 h6 h7 b n cap olds hlo (holds b rfl) ad m c news hn hc hfull b1 b2
    obtain ⟨ad', c', rfl⟩ := own_form r1
    unfold Oper.wp
    simp [execOp, hop, resolve, invoke, builtin, hs, hx, hrun, Result.andThen]
    exact hK ad' c' w' r1 r2
  | none =>
    obtain ⟨rfl, rfl⟩ := hnone rfl
    obtain rfl : olds = [] := List.eq_nil_of_length_eq_zero (by simpa using hlo)
    obtain ⟨v', w', hrun, r1, r2, _⟩ := run_append_own (P := P) w w.heap.size t o.type e i z size bytes h1 h2 h3 h4 h5 h6 h7 (.slice none 0 0) 0 [] (World.ownsRow_nil w _ e size) ad m c news hn hc h1c b1 b2 (Nat.le_refl _)
    obtain ⟨ad', c', rfl⟩ := own_form r1
    unfold Oper.wp
    simp [execOp, hop, resolve, invoke, builtin, hs, hx, hrun, Result.andThen]
    have hz := hK ad' c' w' r1 r2
    rw [Nat.zero_add] at hz
    exact hz
theorem slice_front (a : Option Addr) (n c : Nat) (hn : n ≤ c) (W : World) : (Instr.slice 51 (.slice a n c) none (some (.int .i64 (n : Int))) (some (.int .i64 (n : Int)))).run Try.prog W = .ok (.slice a n n) W := by
  have h := run_slice_hm (P := Try.prog) W 51 a n c (by kernel_rfl) .i64 .i64 (n : Int) (n : Int) (by omega) (Int.le_refl _) (by omega)
  have hz : (sizeOf (Try.prog.elem 51)).run Try.prog W = .ok 1 W := by kernel_rfl
  rw [h, hz]
  simp only [Result.andThen, sliced, Int.toNat_natCast, Nat.sub_zero, Nat.zero_mul]
  cases a with
  | none => simp
  | some ad =>
    obtain ⟨b, o, f⟩ := ad
    simp [Addr.add]
theorem app_moves {C B tc : Nat} {w6 : World} {ta : Option Addr} {ms : List Int} {m : Int} (h : w6.ownsRow B 2 1 (.slice ta (ms.length + 1) tc) (ms.length + 1) (ms.map (Value.int .i64) ++ [.int .i64 m])) (hC : C < B) : RowN C w6 ta (ms ++ [m]) ∧ (ms ++ [m]).length = ms.length + 1 ∧ ms.length + 1 ≤ tc ∧ (ta = none → ms.length + 1 = 0) := by
  have h2 : OwnI w6 B ta tc (ms ++ [m]) := by simpa [OwnI] using h
  refine ⟨own_rowN h2 hC, by simp, (own_caps h).1, fun e => ?_⟩
  obtain ⟨g, hg, _⟩ := own_lt_n h (by omega)
  rw [hg] at e; cases e
theorem row_holds {W : World} {ma : Option Addr} {vs : List Value} (h : Row W ma vs) : ∀ b, ma = some b → ∀ j u, vs[j]? = some u → W.cell? (b.add j) = some u := by
  intro b hb j u hu
  obtain ⟨b', o, ha, hc⟩ := h j u hu
  rw [hb] at ha
  cases ha
  by_cases hj : j = 0
  · subst hj
    simpa [Addr.add] using hc
  · simpa [Addr.add, hj] using hc
theorem grown_none {a b : World} (h : a.grownBy b none) : Below a.heap.size a b := ⟨h.os, h.tape, h.output, h.size, fun k hk => h.block k hk (by simp)⟩

/-! ### lines -/
def lnGo (f : P → Int) : List Mk → Int
  | [] => 0
  | x :: l => f (nxt x) + lnGo f l
/-- the sum of f over the last positions of all lines of a length -/
def lnT (r : R) (f : P → Int) : Nat → P → Int
  | 0, p => f p
  | d + 1, p => lnGo (lnT r f d) (allP r p)
def P8 : Nat → Int
  | 0 => 1
  | d + 1 => 8 * P8 d
theorem P8_pos : ∀ d, 1 ≤ P8 d
  | 0 => by simp [P8]
  | d + 1 => by have := P8_pos d; simp only [P8]; omega
theorem P8_le : ∀ d, d ≤ 9 → P8 d ≤ 200000000 := by decide
theorem lnGo_bd (f : P → Int) (B : Int) : ∀ l : List Mk, (∀ x ∈ l, 0 ≤ f (nxt x) ∧ f (nxt x) ≤ B) → 0 ≤ lnGo f l ∧ lnGo f l ≤ B * (l.length : Int)
  | [], h => by simp [lnGo]
  | x :: l, h => by
    have h1 := h x (by simp)
    have h2 := lnGo_bd f B l (fun y hy => h y (by simp [hy]))
    have e : B * ((x :: l).length : Int) = B * (l.length : Int) + B := by
      simp only [List.length_cons, Int.natCast_add, Int.mul_add]
      omega
    simp only [lnGo]
    rw [e]
    omega
theorem lnT_bd (r : R) (f : P → Int) (hf : ∀ q, 0 ≤ f q ∧ f q ≤ 1) : ∀ (d : Nat) (p : P), p.ok r = true → 0 ≤ lnT r f d p ∧ lnT r f d p ≤ P8 d
  | 0, p, h => by simp only [lnT, P8]; exact hf p
  | d + 1, p, h => by
    have h1 := lnGo_bd (lnT r f d) (P8 d) (allP r p) (fun x hx => lnT_bd r f hf d (nxt x) (allP_valid hx))
    have h2 := P8_pos d
    have h3 := allP_len8 h
    have h4 : P8 d * ((allP r p).length : Int) ≤ P8 d * 8 := Int.mul_le_mul_of_nonneg_left (by omega) (by omega)
    simp only [lnT, P8]
    omega
def oneF : P → Int := fun _ => 1
def finF (r : R) : P → Int := fun q => if allP r q = [] then 1 else 0
theorem oneF_bd : ∀ q, 0 ≤ oneF q ∧ oneF q ≤ 1 := fun q => by simp [oneF]
theorem finF_bd (r : R) : ∀ q, 0 ≤ finF r q ∧ finF r q ≤ 1 := fun q => by unfold finF; split <;> omega
def cntT (r : R) (d : Nat) (p : P) : Int := lnT r oneF d p
def fnT (r : R) (d : Nat) (p : P) : Int := lnT r (finF r) d p
theorem lnGo_at (f : P → Int) (l : List (Mk × MA)) (k : Nat) (x : Mk × MA) (hx : l[k]? = some x) : lnGo f ((l.drop k).map Prod.fst) = f (nxt x.1) + lnGo f ((l.drop (k + 1)).map Prod.fst) := by
  obtain ⟨hk, he⟩ := List.getElem?_eq_some_iff.1 hx
  rw [List.drop_eq_getElem_cons hk, he]
  rfl

/-! ### lists of counts -/
/-- f is added from a place on -/
def addL (at_ : Nat) (f : Nat → Int) (cs : List Int) : List Int := cs.mapIdx (fun i v => if at_ ≤ i then v + f (i - at_) else v)
theorem addL_len (a : Nat) (f : Nat → Int) (cs : List Int) : (addL a f cs).length = cs.length := by simp [addL]
theorem addL_get (a : Nat) (f : Nat → Int) (cs : List Int) (i : Nat) : (addL a f cs)[i]? = (cs[i]?).map (fun v => if a ≤ i then v + f (i - a) else v) := by simp [addL]
theorem addL_add (a : Nat) (f g : Nat → Int) (cs : List Int) : addL a g (addL a f cs) = addL a (fun j => f j + g j) cs := by
  apply List.ext_getElem?
  intro i
  rw [addL_get, addL_get, addL_get, Option.map_map]
  cases cs[i]? with
  | none => rfl
  | some v =>
    simp only [Option.map_some, Function.comp]
    split <;> simp <;> omega
theorem addL_zero (a : Nat) (cs : List Int) : addL a (fun _ => 0) cs = cs := by
  apply List.ext_getElem?
  intro i
  rw [addL_get]
  cases cs[i]? <;> simp
def adGo (r : R) (f : P → Int) (a : Nat) : List Mk → List Int → List Int
  | [], cs => cs
  | x :: l, cs => adGo r f a l (addL a (fun j => lnT r f j (nxt x)) cs)
theorem adGo_eq (r : R) (f : P → Int) (a : Nat) : ∀ (l : List Mk) (cs : List Int), adGo r f a l cs = addL a (fun j => lnGo (lnT r f j) l) cs
  | [], cs => by simp only [adGo, lnGo]; exact (addL_zero a cs).symm
  | x :: l, cs => by
    simp only [adGo, lnGo]
    rw [adGo_eq r f a l, addL_add]
/-- one more at a place, and the lines behind it from the next place on -/
theorem addL_step (r : R) (f : P → Int) (p : P) (a : Nat) (cs : List Int) (ha : a < cs.length) : addL (a + 1) (fun j => lnGo (lnT r f j) (allP r p)) (cs.set a (cs[a] + f p)) = addL a (fun j => lnT r f j p) cs := by
  apply List.ext_getElem?
  intro i
  rw [addL_get, addL_get, List.getElem?_set]
  by_cases h : a = i
  · subst h
    rw [if_pos rfl, if_pos ha, List.getElem?_eq_getElem ha]
    simp only [Option.map_some, Option.some.injEq]
    rw [if_neg (by omega), if_pos (Nat.le_refl _), Nat.sub_self]
    rfl
  · rw [if_neg h]
    cases cs[i]? with
    | none => rfl
    | some v =>
      simp only [Option.map_some]
      by_cases h1 : a ≤ i
      · rw [if_pos (by omega), if_pos h1, show i - a = (i - (a + 1)) + 1 by omega]
        rfl
      · rw [if_neg (by omega), if_neg h1]
theorem addL_set (r : R) (p : P) (f : P → Int) (a : Nat) (cs : List Int) (ha : a < cs.length) (hl : cs.length ≤ a + 1) : addL a (fun j => lnT r f j p) cs = cs.set a (cs[a] + f p) := by
  rw [← addL_step r f p a cs ha]
  apply List.ext_getElem?
  intro i
  rw [addL_get]
  by_cases h : i < cs.length
  · cases (cs.set a (cs[a] + f p))[i]? with
    | none => rfl
    | some v =>
      simp only [Option.map_some]
      rw [if_neg (by omega)]
  · rw [List.getElem?_eq_none (by simp; omega)]
    rfl
theorem addL_bd {a : Nat} {f : Nat → Int} {cs : List Int} {T B : Int} (hB : 0 ≤ B) (h : ∀ v ∈ cs, 0 ≤ v ∧ v ≤ T) (hf : ∀ j, a + j < cs.length → 0 ≤ f j ∧ f j ≤ B) : ∀ v ∈ addL a f cs, 0 ≤ v ∧ v ≤ T + B := by
  intro v hv
  obtain ⟨i, hi⟩ := List.getElem?_of_mem hv
  rw [addL_get] at hi
  cases hc : cs[i]? with
  | none => rw [hc] at hi; cases hi
  | some u =>
    rw [hc] at hi
    have hu := h u (List.mem_of_getElem? hc)
    have hil := (List.getElem?_eq_some_iff.1 hc).1
    simp only [Option.map_some, Option.some.injEq] at hi
    subst hi
    split
    · have := hf (i - a) (by omega); omega
    · omega

/-! ### Cnt1: lines of moves, one after the other, and their numbers: the program's functions. Each contract holds for every argument, under the premises that it states. -/
/-- the cell that is counted in, and the rules that a closure reads -/
structure CInv (w : World) (C RB : Nat) (r : R) (n : Int) : Prop where
  c0 : w.cell? ⟨C, 0, none⟩ = some (.int .i64 n)
  fz : ∀ o, w.frozen? ⟨C, o, none⟩ = false
  rx : BoxP RB r.cells.toList w
  ne : ¬ RB = C
theorem CInv.below {w w' : World} {C RB : Nat} {r : R} {n : Int} (h : CInv w C RB r n) (hb : Below w.heap.size w w') : CInv w' C RB r n := by
  have hB : C < w.heap.size := World.block_lt_of_cell? w _ h.c0
  exact ⟨(hb.cell (show (Addr.mk C 0 none).block < _ from hB)).trans h.c0, fun o => (hb.frozen (show (Addr.mk C o none).block < _ from hB)).trans (h.fz o), h.rx.below hb, h.ne⟩
theorem CInv.set {w : World} {C RB : Nat} {r : R} {n : Int} (h : CInv w C RB r n) (m : Int) : CInv (w.setCell ⟨C, 0, none⟩ (.int .i64 m)) C RB r m := by
  refine ⟨World.cell?_setCell_same _ _ _ h.c0, fun o => by simp [h.fz], h.rx.set h.ne _ _, h.ne⟩
/-- what a call leaves that counts -/
def ElPost (w : World) (C RB : Nat) (r : R) (n : Int) (e : Ending) (w' : World) : Prop := e = .returned (.tuple #[]) ∧ CInv w' C RB r n ∧ Chg C (C + 1) w w'
/-- a closure that counts f of the last position -/
def ClC (r : R) (K : FuncId) (caps : Array Value) (f : P → Int) (C RB : Nat) : Prop := ∀ (q : P) (_ : q.ok r = true) (qa ta : Option Addr) (qc tc : Nat) (ma : Option Addr) (ml mc : Nat) (w : World) (n : Int) (_ : CInv w C RB r n) (_ : PRow w q qa ta) (_ : q.pits.length ≤ qc) (_ : qc ≤ maxLen) (_ : 0 ≤ n) (_ : n ≤ 1000000000000),
    Calls Try.prog K (#[.slice ma ml mc, q.val qa qc ta tc] ++ caps) w (ElPost w C RB r (n + f q))

structure EsSt (w wr : World) (C RB : Nat) (r : R) (f : P → Int) (d : Nat) (l : List (Mk × MA)) (ad : Option Addr) (c g k : Nat) (n tgt : Int) : Prop where
  kl : k ≤ l.length
  go : n + lnGo (lnT r f d) ((l.drop k).map Prod.fst) = tgt
  n0 : 0 ≤ n
  n1 : n + P8 d * ((l.length - k : Nat) : Int) ≤ 1000000000000
  own : MksOwn wr w.heap.size ad c l
  box : BoxP g (mcells l) wr
  rx : BoxP w.heap.size r.cells.toList wr
  inv : CInv wr C RB r n
  chg : Chg C (C + 1) w wr
@[reducible] def capA (C RB : Nat) : Array Value := #[.pointer (some ⟨C, 0, none⟩)]
@[reducible] def capB (C RB : Nat) : Array Value := #[.pointer (some ⟨RB, 0, none⟩), .pointer (some ⟨C, 0, none⟩)]

/-! ### Cnt2: how many lines there are, of a length and of each length, and how many of them end: the program's functions. Each contract holds for every argument, under the premises that it states. -/
def cntL (r : R) (p : P) (D : Nat) : List Int := (List.range (D + 1)).map (fun j => cntT r j p)
def finL (r : R) (p : P) (D : Nat) : List Int := (List.range (D + 1)).map (fun j => fnT r j p)
def clinesP (r : R) (p : P) (d : Int) : Int × Int := if srchC r p d = 0 then (cntT r d.toNat p, 0) else (0, srchC r p d)
def lvlP (r : R) (p : P) (d : Int) : List Int × Int := if srchC r p d = 0 then (cntL r p d.toNat, 0) else ([], srchC r p d)
def cfinP (r : R) (p : P) (d : Int) : Int × Int := if srchC r p d = 0 then ((finL r p d.toNat).sum, 0) else (0, srchC r p d)
def firstPos : List Int → Nat → Int × Int
  | [], _ => (0, 3)
  | x :: l, k => if x > 0 then (k, 0) else firstPos l (k + 1)
def shortP (r : R) (p : P) (d : Int) : Int × Int := if srchC r p d = 0 then firstPos (finL r p d.toNat) 0 else (0, srchC r p d)
theorem cntT_bd {r : R} {p : P} (h : p.ok r = true) {j : Nat} (hj : j ≤ 8) : 0 ≤ cntT r j p ∧ cntT r j p ≤ 200000000 := by
  have h1 := lnT_bd r oneF oneF_bd j p h
  have h2 := P8_le j (by omega)
  unfold cntT
  omega
theorem fnT_bd {r : R} {p : P} (h : p.ok r = true) {j : Nat} (hj : j ≤ 8) : 0 ≤ fnT r j p ∧ fnT r j p ≤ 200000000 := by
  have h1 := lnT_bd r (finF r) (finF_bd r) j p h
  have h2 := P8_le j (by omega)
  unfold fnT
  omega
theorem cntL_bd {r : R} {p : P} (h : p.ok r = true) {D : Nat} (hD : D ≤ 8) : ∀ v ∈ cntL r p D, 0 ≤ v ∧ v ≤ 200000000 := by
  intro v hv
  obtain ⟨j, hj, rfl⟩ := List.mem_map.1 hv
  have := List.mem_range.1 hj
  exact cntT_bd h (by omega)
theorem finL_bd {r : R} {p : P} (h : p.ok r = true) {D : Nat} (hD : D ≤ 8) : ∀ v ∈ finL r p D, 0 ≤ v ∧ v ≤ 200000000 := by
  intro v hv
  obtain ⟨j, hj, rfl⟩ := List.mem_map.1 hv
  have := List.mem_range.1 hj
  exact fnT_bd h (by omega)
theorem cntL_len (r : R) (p : P) (D : Nat) : (cntL r p D).length = D + 1 := by simp [cntL]
theorem finL_len (r : R) (p : P) (D : Nat) : (finL r p D).length = D + 1 := by simp [finL]
theorem psum_bdB {xs : List Int} (h : ∀ v ∈ xs, 0 ≤ v ∧ v ≤ 200000000) (k : Nat) : 0 ≤ psum xs k ∧ psum xs k ≤ 200000000 * (k : Int) := by
  unfold psum
  have key : ∀ l : List Int, (∀ v ∈ l, 0 ≤ v ∧ v ≤ 200000000) → 0 ≤ l.sum ∧ l.sum ≤ 200000000 * (l.length : Int) := by
    intro l
    induction l with
    | nil => intro _; simp
    | cons x l ih =>
      intro hx
      have h1 := hx x (by simp)
      have h2 := ih (fun v hv => hx v (by simp [hv]))
      simp only [List.sum_cons, List.length_cons]
      omega
  have h1 := key (xs.take k) (fun v hv => h v (List.mem_of_mem_take hv))
  have h2 : (xs.take k).length ≤ k := List.length_take_le _ _
  omega
theorem none_rowN (C : Nat) (w : World) : RowN C w none [] := ⟨fun j v hv => by simp at hv, fun _ _ _ h => by cases h⟩
def IntsRes1 (w : World) (xs : List Int) (e : Ending) (w' : World) : Prop := ∃ a c, e = .returned (.slice a xs.length c) ∧ OwnI w' w.heap.size a c xs ∧ Below w.heap.size w w'


end Go.Proofs.Ytbjdfgfebepacaa
