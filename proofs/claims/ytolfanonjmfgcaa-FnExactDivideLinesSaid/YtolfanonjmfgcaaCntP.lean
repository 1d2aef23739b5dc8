/- CntP: lines of moves, counted, in plain terms; an append that surely makes a new row, inside a region that draws its order. Each fact holds under the premises that it states. -/
import Derived.Test.YtolfanonjmfgcaaSrP
import Derived.Deep.AppendLies
import Derived.Test.YtolfanonjmfgcaaSrch1
import Derived.Test.YtolfanonjmfgcaaSrS
namespace Go.Proofs.Ytolfanonjmfgcaa
set_option linter.unusedSimpArgs false
set_option linter.unusedVariables false
set_option linter.unnecessarySimpa false
open Go.RowKit Go.ChangeShapes Go.WideShapes Go.ChangeAt Go.Joins

theorem wp_append_grows {P : Program} (w : World) {o : Oper} {a : Act} {K : Act → World → Prop} {Q : Exit → Act → World → Prop}
    (s x : Operand) (t : TypeId) (hop : o.op = Op.call { callee := Callee.builtin Builtin.append, args := #[s, x], argTypes := #[t, t] })
    (e : TypeId) (i : TypeInfo) (z : Value) (size bytes : Nat) (h1 : P.underlying t = some (.slice e)) (h2 : P.info? e = some i) (h3 : i.zero = some z) (h4 : i.size = size) (h5 : i.bytes = bytes) (h6 : z.cells.size = size) (h7 : 0 < size)
    (ao : Option Addr) (n cap : Nat) (olds : List Value) (hs : a.eval s = .slice ao n cap) (hnone : ao = none → n = 0 ∧ cap = 0) (hlo : olds.length = n * size) (holds : ∀ b, ao = some b → ∀ j u, olds[j]? = some u → w.cell? (b.add j) = some u)
    (ad : Addr) (m c : Nat) (news : List Value) (hx : a.eval x = .slice (some ad) m c) (hn : news.length = m * size) (hc : ∀ j u, news[j]? = some u → w.cell? (ad.add j) = some u) (h1c : ∀ u ∈ news, u.oneCell' = true)
    (hfull : cap < n + m) (b1 : n + m ≤ maxLen) (b2 : (n + m) * bytes ≤ 140737488355328)
    (hK : ∀ ad' c' w', w'.ownsRow w.heap.size e size (.slice ad' (n + m) c') (n + m) (olds ++ news) → w.grownBy w' none → K (a.put o.dst (.slice ad' (n + m) c')) w') :
    o.wp P a w K Q := by
  cases ao with
  | some b =>
    obtain ⟨v', w', hrun, r1, r2⟩ := run_append_arg_grows (P := P) w t o.type e i z size bytes h1 h2 h3 h4 h5 h6 h7 b n cap olds hlo (holds b rfl) ad m c news hn hc hfull b1 b2
    obtain ⟨ad', c', rfl⟩ := own_form r1
    unfold Oper.wp
    simp [execOp, hop, resolve, invoke, builtin, hs, hx, hrun, Result.andThen]
    exact hK ad' c' w' r1 r2
  | none =>
    obtain ⟨rfl, rfl⟩ := hnone rfl
    obtain rfl : olds = [] := List.eq_nil_of_length_eq_zero (by simpa using hlo)
    obtain ⟨v', w', hrun, r1, r2, _⟩ := run_append_own (P := P) w w.heap.size t o.type e i z size bytes h1 h2 h3 h4 h5 h6 h7 (.slice none 0 0) 0 [] (World.ownsRow_nil w _ e size) ad m c news hn hc h1c b1 b2 (Nat.le_refl _)
    obtain ⟨ad', c', rfl⟩ := own_form r1
    unfold Oper.wp
    simp [execOp, hop, resolve, invoke, builtin, hs, hx, hrun, Result.andThen]
    have hz := hK ad' c' w' r1 r2
    rw [Nat.zero_add] at hz
    exact hz
theorem slice_front (a : Option Addr) (n c : Nat) (hn : n ≤ c) (W : World) : (Instr.slice 24 (.slice a n c) none (some (.int .i64 (n : Int))) (some (.int .i64 (n : Int)))).run Try.prog W = .ok (.slice a n n) W := by
  have h := run_slice_hm (P := Try.prog) W 24 a n c (by kernel_rfl) .i64 .i64 (n : Int) (n : Int) (by omega) (Int.le_refl _) (by omega)
  have hz : (sizeOf (Try.prog.elem 24)).run Try.prog W = .ok 1 W := by kernel_rfl
  rw [h, hz]
  simp only [Result.andThen, sliced, Int.toNat_natCast, Nat.sub_zero, Nat.zero_mul]
  cases a with
  | none => simp
  | some ad =>
    obtain ⟨b, o, f⟩ := ad
    simp [Addr.add]
theorem app_moves {C B tc : Nat} {w6 : World} {ta : Option Addr} {ms : List Int} {m : Int} (h : w6.ownsRow B 2 1 (.slice ta (ms.length + 1) tc) (ms.length + 1) (ms.map (Value.int .i64) ++ [.int .i64 m])) (hC : C < B) : RowN C w6 ta (ms ++ [m]) ∧ (ms ++ [m]).length = ms.length + 1 ∧ ms.length + 1 ≤ tc ∧ (ta = none → ms.length + 1 = 0) := by
  have h2 : OwnI w6 B ta tc (ms ++ [m]) := by simpa [OwnI] using h
  refine ⟨own_rowN h2 hC, by simp, (own_caps h).1, fun e => ?_⟩
  obtain ⟨g, hg, _⟩ := own_lt_n h (by omega)
  rw [hg] at e; cases e
theorem row_holds {W : World} {ma : Option Addr} {vs : List Value} (h : Row W ma vs) : ∀ b, ma = some b → ∀ j u, vs[j]? = some u → W.cell? (b.add j) = some u := by
  intro b hb j u hu
  obtain ⟨b', o, ha, hc⟩ := h j u hu
  rw [hb] at ha
  cases ha
  by_cases hj : j = 0
  · subst hj
    simpa [Addr.add] using hc
  · simpa [Addr.add, hj] using hc
theorem grown_none {a b : World} (h : a.grownBy b none) : Below a.heap.size a b := ⟨h.os, h.tape, h.output, h.size, fun k hk => h.block k hk (by simp)⟩

/-! ### lines -/
def lnGo (f : P → Int) : List Mk → Int
  | [] => 0
  | x :: l => f (nxt x) + lnGo f l
/-- the sum of f over the last positions of all lines of a length -/
def lnT (r : R) (f : P → Int) : Nat → P → Int
  | 0, p => f p
  | d + 1, p => lnGo (lnT r f d) (allP r p)
def P8 : Nat → Int
  | 0 => 1
  | d + 1 => 8 * P8 d
theorem P8_pos : ∀ d, 1 ≤ P8 d
  | 0 => by simp [P8]
  | d + 1 => by have := P8_pos d; simp only [P8]; omega
theorem P8_le : ∀ d, d ≤ 9 → P8 d ≤ 200000000 := by decide
theorem lnGo_bd (f : P → Int) (B : Int) : ∀ l : List Mk, (∀ x ∈ l, 0 ≤ f (nxt x) ∧ f (nxt x) ≤ B) → 0 ≤ lnGo f l ∧ lnGo f l ≤ B * (l.length : Int)
  | [], h => by simp [lnGo]
  | x :: l, h => by
    have h1 := h x (by simp)
    have h2 := lnGo_bd f B l (fun y hy => h y (by simp [hy]))
    have e : B * ((x :: l).length : Int) = B * (l.length : Int) + B := by
      simp only [List.length_cons, Int.natCast_add, Int.mul_add]
      omega
    simp only [lnGo]
    rw [e]
    omega
theorem lnT_bd (r : R) (f : P → Int) (hf : ∀ q, 0 ≤ f q ∧ f q ≤ 1) : ∀ (d : Nat) (p : P), p.ok r = true → 0 ≤ lnT r f d p ∧ lnT r f d p ≤ P8 d
  | 0, p, h => by simp only [lnT, P8]; exact hf p
  | d + 1, p, h => by
    have h1 := lnGo_bd (lnT r f d) (P8 d) (allP r p) (fun x hx => lnT_bd r f hf d (nxt x) (allP_valid hx))
    have h2 := P8_pos d
    have h3 := allP_len8 h
    have h4 : P8 d * ((allP r p).length : Int) ≤ P8 d * 8 := Int.mul_le_mul_of_nonneg_left (by omega) (by omega)
    simp only [lnT, P8]
    omega
def oneF : P → Int := fun _ => 1
def finF (r : R) : P → Int := fun q => if allP r q = [] then 1 else 0
theorem oneF_bd : ∀ q, 0 ≤ oneF q ∧ oneF q ≤ 1 := fun q => by simp [oneF]
theorem finF_bd (r : R) : ∀ q, 0 ≤ finF r q ∧ finF r q ≤ 1 := fun q => by unfold finF; split <;> omega
def cntT (r : R) (d : Nat) (p : P) : Int := lnT r oneF d p
def fnT (r : R) (d : Nat) (p : P) : Int := lnT r (finF r) d p
theorem lnGo_at (f : P → Int) (l : List (Mk × MA)) (k : Nat) (x : Mk × MA) (hx : l[k]? = some x) : lnGo f ((l.drop k).map Prod.fst) = f (nxt x.1) + lnGo f ((l.drop (k + 1)).map Prod.fst) := by
  obtain ⟨hk, he⟩ := List.getElem?_eq_some_iff.1 hx
  rw [List.drop_eq_getElem_cons hk, he]
  rfl

/-! ### lists of counts -/
/-- f is added from a place on -/
def addL (at_ : Nat) (f : Nat → Int) (cs : List Int) : List Int := cs.mapIdx (fun i v => if at_ ≤ i then v + f (i - at_) else v)
theorem addL_len (a : Nat) (f : Nat → Int) (cs : List Int) : (addL a f cs).length = cs.length := by simp [addL]
theorem addL_get (a : Nat) (f : Nat → Int) (cs : List Int) (i : Nat) : (addL a f cs)[i]? = (cs[i]?).map (fun v => if a ≤ i then v + f (i - a) else v) := by simp [addL]
theorem addL_add (a : Nat) (f g : Nat → Int) (cs : List Int) : addL a g (addL a f cs) = addL a (fun j => f j + g j) cs := by
  apply List.ext_getElem?
  intro i
  rw [addL_get, addL_get, addL_get, Option.map_map]
  cases cs[i]? with
  | none => rfl
  | some v =>
    simp only [Option.map_some, Function.comp]
    split <;> simp <;> omega
theorem addL_zero (a : Nat) (cs : List Int) : addL a (fun _ => 0) cs = cs := by
  apply List.ext_getElem?
  intro i
  rw [addL_get]
  cases cs[i]? <;> simp
def adGo (r : R) (f : P → Int) (a : Nat) : List Mk → List Int → List Int
  | [], cs => cs
  | x :: l, cs => adGo r f a l (addL a (fun j => lnT r f j (nxt x)) cs)
theorem adGo_eq (r : R) (f : P → Int) (a : Nat) : ∀ (l : List Mk) (cs : List Int), adGo r f a l cs = addL a (fun j => lnGo (lnT r f j) l) cs
  | [], cs => by simp only [adGo, lnGo]; exact (addL_zero a cs).symm
  | x :: l, cs => by
    simp only [adGo, lnGo]
    rw [adGo_eq r f a l, addL_add]
/-- one more at a place, and the lines behind it from the next place on -/
theorem addL_step (r : R) (f : P → Int) (p : P) (a : Nat) (cs : List Int) (ha : a < cs.length) : addL (a + 1) (fun j => lnGo (lnT r f j) (allP r p)) (cs.set a (cs[a] + f p)) = addL a (fun j => lnT r f j p) cs := by
  apply List.ext_getElem?
  intro i
  rw [addL_get, addL_get, List.getElem?_set]
  by_cases h : a = i
  · subst h
    rw [if_pos rfl, if_pos ha, List.getElem?_eq_getElem ha]
    simp only [Option.map_some, Option.some.injEq]
    rw [if_neg (by omega), if_pos (Nat.le_refl _), Nat.sub_self]
    rfl
  · rw [if_neg h]
    cases cs[i]? with
    | none => rfl
    | some v =>
      simp only [Option.map_some]
      by_cases h1 : a ≤ i
      · rw [if_pos (by omega), if_pos h1, show i - a = (i - (a + 1)) + 1 by omega]
        rfl
      · rw [if_neg (by omega), if_neg h1]
theorem addL_set (r : R) (p : P) (f : P → Int) (a : Nat) (cs : List Int) (ha : a < cs.length) (hl : cs.length ≤ a + 1) : addL a (fun j => lnT r f j p) cs = cs.set a (cs[a] + f p) := by
  rw [← addL_step r f p a cs ha]
  apply List.ext_getElem?
  intro i
  rw [addL_get]
  by_cases h : i < cs.length
  · cases (cs.set a (cs[a] + f p))[i]? with
    | none => rfl
    | some v =>
      simp only [Option.map_some]
      rw [if_neg (by omega)]
  · rw [List.getElem?_eq_none (by simp; omega)]
    rfl
theorem addL_bd {a : Nat} {f : Nat → Int} {cs : List Int} {T B : Int} (hB : 0 ≤ B) (h : ∀ v ∈ cs, 0 ≤ v ∧ v ≤ T) (hf : ∀ j, a + j < cs.length → 0 ≤ f j ∧ f j ≤ B) : ∀ v ∈ addL a f cs, 0 ≤ v ∧ v ≤ T + B := by
  intro v hv
  obtain ⟨i, hi⟩ := List.getElem?_of_mem hv
  rw [addL_get] at hi
  cases hc : cs[i]? with
  | none => rw [hc] at hi; cases hi
  | some u =>
    rw [hc] at hi
    have hu := h u (List.mem_of_getElem? hc)
    have hil := (List.getElem?_eq_some_iff.1 hc).1
    simp only [Option.map_some, Option.some.injEq] at hi
    subst hi
    split
    · have := hf (i - a) (by omega); omega
    · omega

/-! ### Cnt1: lines of moves, one after the other, and their numbers: the program's functions. Each contract holds for every argument, under the premises that it states. -/
/-- the cell that is counted in, and the rules that a closure reads -/
structure CInv (w : World) (C RB : Nat) (r : R) (n : Int) : Prop where
  c0 : w.cell? ⟨C, 0, none⟩ = some (.int .i64 n)
  fz : ∀ o, w.frozen? ⟨C, o, none⟩ = false
  rx : BoxP RB r.cells.toList w
  ne : ¬ RB = C
theorem CInv.below {w w' : World} {C RB : Nat} {r : R} {n : Int} (h : CInv w C RB r n) (hb : Below w.heap.size w w') : CInv w' C RB r n := by
  have hB : C < w.heap.size := World.block_lt_of_cell? w _ h.c0
  exact ⟨(hb.cell (show (Addr.mk C 0 none).block < _ from hB)).trans h.c0, fun o => (hb.frozen (show (Addr.mk C o none).block < _ from hB)).trans (h.fz o), h.rx.below hb, h.ne⟩
theorem CInv.set {w : World} {C RB : Nat} {r : R} {n : Int} (h : CInv w C RB r n) (m : Int) : CInv (w.setCell ⟨C, 0, none⟩ (.int .i64 m)) C RB r m := by
  refine ⟨World.cell?_setCell_same _ _ _ h.c0, fun o => by simp [h.fz], h.rx.set h.ne _ _, h.ne⟩
/-- what a call leaves that counts -/
def ElPost (w : World) (C RB : Nat) (r : R) (n : Int) (e : Ending) (w' : World) : Prop := e = .returned (.tuple #[]) ∧ CInv w' C RB r n ∧ Chg C (C + 1) w w'
/-- a closure that counts f of the last position -/
def ClC (r : R) (K : FuncId) (caps : Array Value) (f : P → Int) (C RB : Nat) : Prop := ∀ (q : P) (_ : q.ok r = true) (qa ta : Option Addr) (qc tc : Nat) (ma : Option Addr) (ml mc : Nat) (w : World) (n : Int) (_ : CInv w C RB r n) (_ : PRow w q qa ta) (_ : q.pits.length ≤ qc) (_ : qc ≤ maxLen) (_ : 0 ≤ n) (_ : n ≤ 1000000000000),
    Calls Try.prog K (#[.slice ma ml mc, q.val qa qc ta tc] ++ caps) w (ElPost w C RB r (n + f q))

set_option maxHeartbeats 4000000 in
theorem countLines1_c (r : R) (C RB : Nat) : ClC r 39 #[.pointer (some ⟨C, 0, none⟩)] oneF C RB := by
  intro q hok qa ta qc tc ma ml mc w n hI hrow hc hcm hn0 hn1
  have hCl : C < w.heap.size := World.block_lt_of_cell? w _ hI.c0
  have hI1 := hI.set (n + 1)
  have HF : Hid (CInv ((w.setCell ⟨C, 0, none⟩ (.int .i64 (n + 1))).alloc (.cells (q.cells qa qc ta tc) 32)) C RB r (n + 1) ∧ Chg C (C + 1) w ((w.setCell ⟨C, 0, none⟩ (.int .i64 (n + 1))).alloc (.cells (q.cells qa qc ta tc) 32))) :=
    ⟨hI1.below (below_alloc1 _ _), (chg_set w C 0 _).grow (below_alloc1 _ _)⟩
  obtain ⟨z0, z1⟩ := (⟨hI.c0, hI.fz⟩ : _ ∧ _)
  have hwr : IntKind.i64.wrap (n + 1) = n + 1 := IntWalk.i64_in _ (by omega)
  clear hI hI1 hok hrow
  show Calls Try.prog 39 #[.slice ma ml mc, q.val qa qc ta tc, .pointer (some ⟨C, 0, none⟩)] w _
  go_enter Try.func39, Try.ntmps39
  go_wp2
  go_end0
  exact ⟨rfl, HF.out⟩

structure EsSt (w wr : World) (C RB : Nat) (r : R) (f : P → Int) (d : Nat) (l : List (Mk × MA)) (ad : Option Addr) (c g k : Nat) (n tgt : Int) : Prop where
  kl : k ≤ l.length
  go : n + lnGo (lnT r f d) ((l.drop k).map Prod.fst) = tgt
  n0 : 0 ≤ n
  n1 : n + P8 d * ((l.length - k : Nat) : Int) ≤ 1000000000000
  own : MksOwn wr w.heap.size ad c l
  box : BoxP g (mcells l) wr
  rx : BoxP w.heap.size r.cells.toList wr
  inv : CInv wr C RB r n
  chg : Chg C (C + 1) w wr
@[reducible] def capA (C RB : Nat) : Array Value := #[.pointer (some ⟨C, 0, none⟩)]
@[reducible] def capB (C RB : Nat) : Array Value := #[.pointer (some ⟨RB, 0, none⟩), .pointer (some ⟨C, 0, none⟩)]
def ElA (r : R) (f : P → Int) (C RB d : Nat) : Prop := ∀ (p : P) (_ : p.ok r = true) (pa sa : Option Addr) (pc sc : Nat) (ma : Option Addr) (mc : Nat) (ms : List Int) (w : World) (n : Int) (_ : CInv w C RB r n) (_ : RowN C w pa p.pits) (_ : RowN C w sa p.stores) (_ : p.pits.length ≤ pc) (_ : pc ≤ maxLen)
    (_ : RowN C w ma ms) (_ : ms.length ≤ mc) (_ : ma = none → ms.length = 0) (_ : ms.length + d ≤ 100) (_ : 0 ≤ n) (_ : n + P8 d ≤ 1000000000000),
    Calls Try.prog 29 #[r.val, p.val pa pc sa sc, .int .i64 (d : Int), .slice ma ms.length mc, .func (.func 39) #[] (capA C RB)] w (ElPost w C RB r (n + lnT r f d p))
set_option maxRecDepth 100000 in
set_option maxHeartbeats 16000000 in
theorem eachLineA_step (r : R) (f : P → Int) (C RB d : Nat) (hf : ∀ q, 0 ≤ f q ∧ f q ≤ 1) (HK : ClC r 39 (capA C RB) f C RB) (hd8 : d ≤ 8) (IH : ∀ d', d = d' + 1 → ElA r f C RB d') : ElA r f C RB d := by
  intro p hok pa sa pc sc ma mc ms w n hI hn1 hn2 hc hcm hms hmc hmn hml h0 h1
  obtain ⟨i0, hi, hz0, hz1, hz2⟩ := info_parts infoI
  obtain ⟨m1, m2⟩ := P.ok_lens hok
  have hCl : C < w.heap.size := World.block_lt_of_cell? w _ hI.c0
  have B0 := below_alloc2 w (.cells r.cells 30) (.cells (p.cells pa pc sa sc) 32)
  have F0 := ((Fr.start w).alloc r.cells 30).alloc (p.cells pa pc sa sc) 32
  have hI1 := hI.below B0
  have h8 := P8_pos d
  have hmf : ∀ (fn : Fn) (first cap : Array Value) (w : World), (Instr.makeFunc fn first cap).run Try.prog w = .ok (.func fn first cap) w := fun _ _ _ _ => rfl
  obtain ⟨dI, hdI⟩ : ∃ dI : Int, dI = (d : Int) := ⟨_, rfl⟩
  rw [← hdI]
  obtain ⟨y, hy⟩ : ∃ y, y = n + lnT r f d p := ⟨_, rfl⟩
  rw [← hy]
  by_cases hd : d = 0
  · have hd0 : (dI == 0) = true := by simp; omega
    subst hd
    have HE : Hid (y = n + f p) := hy
    have HC := HK p hok pa sa pc sc ma ms.length mc _ n hI1 (rowN_prow (hn1.below B0 (Nat.le_refl _)) (hn2.below B0 (Nat.le_refl _))) hc hcm h0 (by omega)
    simp only [capA, Array.append_eq_append, Array.append] at HC
    have HC := Lib.hid HC
    have HB : Hid (Chg C (C + 1) w _) := Chg.ofBelow B0
    obtain ⟨x0, x1, x2⟩ := P.boxc (F0.at 0 rfl)
    simp only [World.size_alloc] at x0 x1 x2
    clear hdI hy hok hI hI1 hn1 hn2 hms IH B0 F0
    go_enter Try.func29, Try.ntmps29
    go_wp2_with fail
    refine HC.out.mono ?_
    rintro e w1 ⟨rfl, hI2, hC2⟩
    have HF : Hid (CInv w1 C RB r (n + f p) ∧ Chg C (C + 1) w w1) := ⟨hI2, HB.out.trans hC2⟩
    clear hI2 hC2
    go_wp2
    go_end0
    rw [HE.out]
    exact ⟨rfl, HF.out⟩
  obtain ⟨d', rfl⟩ : ∃ d', d = d' + 1 := ⟨d - 1, by omega⟩
  have hd0 : (dI == 0) = false := by simp; omega
  have hsb : dI - 1 = (d' : Int) := by omega
  have hwb : IntKind.i64.wrap (d' : Int) = (d' : Int) := IntWalk.i64_in _ (by omega)
  have HIH := Lib.hid (IH d' rfl)
  have HRR := Lib.hid (results_c r p hok pa sa pc sc _ (rowN_prow (hn1.below B0 (Nat.le_refl _)) (hn2.below B0 (Nat.le_refl _))) (by omega) (by omega) hc hcm)
  have HLN := Lib.hid (allP_len8 hok)
  have HV := Lib.hid (fun x (hx : x ∈ allP r p) => allP_valid hx)
  have HI1 := Lib.hid hI1
  have HMS := Lib.hid hms
  have HY : Hid (y = n + lnGo (lnT r f d') (allP r p)) := hy
  have h8' := P8_pos d'
  have hm1 : ms.length + 1 ≤ 100 := by omega
  have HM1 := Lib.hid (show ms.length + 1 + d' ≤ 100 by omega)
  clear hd hdI hy hok hI hI1 hn1 hn2 hms IH HK
  go_enter Try.func29, Try.ntmps29
  go_wp2_with fail
  refine HRR.out.mono ?_
  rintro e w2 ⟨l, ad, c, hl, rfl, ho, hb2⟩
  have F2 := F0.step hb2
  have HL := Lib.hid hl
  have hll : l.length ≤ 8 := by
    have h1 := HLN.out
    rw [← HL.out, List.length_map] at h1
    exact h1
  obtain ⟨g, hbox, hg0, hgd⟩ := mks_box ho hb2.size
  have HGD := Lib.hid hgd
  have hst0 : Hid (EsSt w w2 C RB r f d' l ad c g 0 n y) := by
    refine ⟨Nat.zero_le _, by rw [List.drop_zero, HL.out, HY.out], h0, ?_, ho.le (by first | (simp; done) | (simp; omega)), hbox, F2.at 1 rfl, HI1.out.below hb2, Chg.ofBelow F2.below⟩
    have h1' : P8 d' * (l.length : Int) ≤ P8 d' * 8 := Int.mul_le_mul_of_nonneg_left (by omega) (by omega)
    simp only [P8] at h1
    rw [Nat.sub_zero]
    omega
  have HVX := Lib.hid (fun x (hx : x ∈ l) => HV.out x.1 (by rw [← HL.out]; exact List.mem_map_of_mem hx))
  have hgC : ¬ g = C := by
    simp only [World.size_alloc] at hg0
    omega
  clear hb2 hl ho F0 F2 hbox hg0 hgd HV HRR HI1 HY h1 B0
  go_wp2_with fail
  go_loopw [22] (fun i wr => ∃ (k : Nat) (n : Int), i = .int .i64 k ∧ EsSt w wr C RB r f d' l ad c g k n y) (fun i _ => l.length - (intOf i).toNat)
  case atStart => exact ⟨0, n, rfl, hst0.out⟩
  case round =>
    clear hst0
    obtain ⟨k, s, rfl, hst⟩ := hrel
    have HST := Lib.hid hst
    have hkl := hst.kl
    clear hst
    by_cases hk : k < l.length
    case neg =>
      have HT : Hid (y = s) := by
        have h1 := HST.out.go
        rw [List.drop_eq_nil_of_le (by omega)] at h1
        simp only [List.map_nil, lnGo] at h1
        unfold Hid; omega
      go_wp2
      go_end0
      rw [HT.out]
      exact ⟨rfl, HST.out.inv, HST.out.chg⟩
    obtain ⟨x, hx⟩ : ∃ x, l[k]? = some x := ⟨l[k], by simp [hk]⟩
    obtain ⟨q0, q1, q2, q3, q4, q5⟩ := box_cells HST.out.box hx
    obtain rfl := HGD.out (by omega)
    have hki : (k : Int) < (l.length : Int) := by omega
    have hgl : g < wr.heap.size := World.block_lt_of_cell? wr _ q0
    have hrl : w.heap.size < wr.heap.size := World.block_lt_of_cell? wr _ (R.boxc HST.out.rx).c0
    have hCw : C < wr.heap.size := World.block_lt_of_cell? wr _ HST.out.inv.c0
    have hxm : x ∈ l := List.mem_of_getElem? hx
    obtain ⟨hn1, hn2⟩ := mks_item HST.out.own (S := C) (by omega) hxm
    have hcap := own_caps (HST.out.own.items x hxm).1.pits
    have hVN := HVX.out x hxm
    have hs0 := HST.out.n0
    have hs1 := HST.out.n1
    have hmul : P8 d' * ((l.length - k : Nat) : Int) = P8 d' * ((l.length - (k + 1) : Nat) : Int) + P8 d' := by
      rw [show (l.length - k : Nat) = (l.length - (k + 1)) + 1 by omega, Int.natCast_add, Int.mul_add]; simp
    have hnn : 0 ≤ P8 d' * ((l.length - (k + 1) : Nat) : Int) := Int.mul_nonneg (by omega) (by omega)
    have hub := lnT_bd r f hf d' (nxt x.1) hVN
    have HG : Hid (s + lnT r f d' (nxt x.1) + lnGo (lnT r f d') ((l.drop (k + 1)).map Prod.fst) = y) := by
      have h1 := HST.out.go
      rw [lnGo_at (lnT r f d') l k x hx] at h1
      unfold Hid; omega
    have HCC : Hid (∀ (W : World) (ta : Option Addr) (tc tl : Nat) (t : List Int), Below wr.heap.size wr W → RowN C W ta t → t.length = tl → tl ≤ tc → (ta = none → tl = 0) → tl + d' ≤ 100 → Calls Try.prog 29 #[r.val, (nxt x.1).val x.2.pa x.2.pc x.2.sa x.2.sc, .int .i64 (d' : Int), .slice ta tl tc, .func (.func 39) #[] (capA C RB)] W (ElPost W C RB r (s + lnT r f d' (nxt x.1)))) := fun W ta tc tl t hW ht1 ht2 ht3 ht4 ht5 => by
      subst ht2
      exact HIH.out (nxt x.1) hVN x.2.pa x.2.sa x.2.pc x.2.sc ta tc t W s (HST.out.inv.below hW) (hn1.below hW (Nat.le_refl _)) (hn2.below hW (Nat.le_refl _)) hcap.1 hcap.2 ht1 ht3 ht4 ht5 hs0 (by omega)
    have HN0 : Hid (0 ≤ s + lnT r f d' (nxt x.1) ∧ s + lnT r f d' (nxt x.1) + P8 d' * ((l.length - (k + 1) : Nat) : Int) ≤ 1000000000000) := ⟨by omega, by omega⟩
    obtain ⟨n', hn'⟩ : ∃ n', n' = s + lnT r f d' (nxt x.1) := ⟨_, rfl⟩
    rw [← hn'] at HCC HN0 HG
    have hB5 : Below wr.heap.size wr (wr.alloc (.cells #[.int .i64 x.1.move, .int .i64 x.1.gain, .bool x.1.again, .slice x.2.pa x.1.pits.length x.2.pc, .slice x.2.sa x.1.stores.length x.2.sc, .int .i64 x.1.player] 52)) := below_alloc1 wr _
    have HB5 := Lib.hid hB5
    have HMW := Lib.hid ((HST.out.chg.ints HMS.out).below hB5.drew (Nat.le_refl _))
    have FB := (((Fr.from (w0 := wr) (Below.refl _ _)).box HST.out.rx hrl).step hB5)
    obtain ⟨c0, c1, c2, c3, c4, c5, c6, c7, c8⟩ := R.boxc (FB.at 0 rfl)
    have FX := (Fr.start wr).alloc #[.int .i64 x.1.move, .int .i64 x.1.gain, .bool x.1.again, .slice x.2.pa x.1.pits.length x.2.pc, .slice x.2.sa x.1.stores.length x.2.sc, .int .i64 x.1.player] 52
    obtain ⟨x0, x1, x2, x3, x4, x5⟩ := (⟨FX.at 0 rfl 0 _ rfl, FX.at 0 rfl 1 _ rfl, FX.at 0 rfl 2 _ rfl, FX.at 0 rfl 3 _ rfl, FX.at 0 rfl 4 _ rfl, FX.at 0 rfl 5 _ rfl⟩ : _ ∧ _ ∧ _ ∧ _ ∧ _ ∧ _)
    clear hx hn' hmul hnn hub hVN hs0 hs1 hn1 hn2 hcap hxm
    go_wp2_with fail
    have hzX : (wr.alloc (.cells #[.int .i64 x.1.move, .int .i64 x.1.gain, .bool x.1.again, .slice x.2.pa x.1.pits.length x.2.pc, .slice x.2.sa x.1.stores.length x.2.sc, .int .i64 x.1.player] 52)).heap.size = wr.heap.size + 1 := by simp
    have hgl1 : g < wr.heap.size + 1 := by omega
    have hrl1 : w.heap.size < wr.heap.size + 1 := by omega
    have hnA : ¬ w.heap.size = C := by omega
    have hnB : ¬ wr.heap.size = C := by omega
    have HKP : Hid (∀ W : World, (∀ o, W.cell? ⟨w.heap.size, o, none⟩ = (wr.alloc (.cells #[.int .i64 x.1.move, .int .i64 x.1.gain, .bool x.1.again, .slice x.2.pa x.1.pits.length x.2.pc, .slice x.2.sa x.1.stores.length x.2.sc, .int .i64 x.1.player] 52)).cell? ⟨w.heap.size, o, none⟩) → (∀ o, W.cell? ⟨wr.heap.size, o, none⟩ = (wr.alloc (.cells #[.int .i64 x.1.move, .int .i64 x.1.gain, .bool x.1.again, .slice x.2.pa x.1.pits.length x.2.pc, .slice x.2.sa x.1.stores.length x.2.sc, .int .i64 x.1.player] 52)).cell? ⟨wr.heap.size, o, none⟩) → (W.cell? ⟨w.heap.size, 0, none⟩ = some (.int .i64 r.pits) ∧ W.cell? ⟨w.heap.size, 1, none⟩ = some (.int .i64 r.seeds) ∧ W.cell? ⟨w.heap.size, 2, none⟩ = some (.bool r.stores) ∧ W.cell? ⟨w.heap.size, 3, none⟩ = some (.bool r.skip) ∧ W.cell? ⟨w.heap.size, 4, none⟩ = some (.bool r.relay) ∧ W.cell? ⟨w.heap.size, 5, none⟩ = some (.bool r.feed) ∧ W.cell? ⟨w.heap.size, 6, none⟩ = some (.bool r.again) ∧ W.cell? ⟨w.heap.size, 7, none⟩ = some (.int .i64 r.capture) ∧ W.cell? ⟨w.heap.size, 8, none⟩ = some (.int .i64 r.slam) ∧ W.cell? ⟨wr.heap.size, 0, none⟩ = some (.int .i64 x.1.move) ∧ W.cell? ⟨wr.heap.size, 1, none⟩ = some (.int .i64 x.1.gain) ∧ W.cell? ⟨wr.heap.size, 2, none⟩ = some (.bool x.1.again) ∧ W.cell? ⟨wr.heap.size, 3, none⟩ = some (.slice x.2.pa x.1.pits.length x.2.pc) ∧ W.cell? ⟨wr.heap.size, 4, none⟩ = some (.slice x.2.sa x.1.stores.length x.2.sc) ∧ W.cell? ⟨wr.heap.size, 5, none⟩ = some (.int .i64 x.1.player))) := fun W H1 H2 =>
      ⟨(H1 _).trans c0, (H1 _).trans c1, (H1 _).trans c2, (H1 _).trans c3, (H1 _).trans c4, (H1 _).trans c5, (H1 _).trans c6, (H1 _).trans c7, (H1 _).trans c8, (H2 _).trans x0, (H2 _).trans x1, (H2 _).trans x2, (H2 _).trans x3, (H2 _).trans x4, (H2 _).trans x5⟩
    clear c0 c1 c2 c3 c4 c5 c6 c7 c8 x0 x1 x2 x3 x4 x5 q0 q1 q2 q3 q4 q5 FB FX
    generalize hXd : (wr.alloc (.cells #[.int .i64 x.1.move, .int .i64 x.1.gain, .bool x.1.again, .slice x.2.pa x.1.pits.length x.2.pc, .slice x.2.sa x.1.stores.length x.2.sc, .int .i64 x.1.player] 52)) = X at *
    have hsl : ∀ W : World, (Instr.slice 24 (.slice ma ms.length mc) none (some (.int .i64 (ms.length : Int))) (some (.int .i64 (ms.length : Int)))).run Try.prog W = .ok (.slice ma ms.length ms.length) W := by
      exact slice_front ma ms.length mc hmc
    refine heldH (S := fun W => W.cell? ⟨w.heap.size, 0, none⟩ = some (.int .i64 r.pits) ∧ W.cell? ⟨w.heap.size, 1, none⟩ = some (.int .i64 r.seeds) ∧ W.cell? ⟨w.heap.size, 2, none⟩ = some (.bool r.stores) ∧ W.cell? ⟨w.heap.size, 3, none⟩ = some (.bool r.skip) ∧ W.cell? ⟨w.heap.size, 4, none⟩ = some (.bool r.relay) ∧ W.cell? ⟨w.heap.size, 5, none⟩ = some (.bool r.feed) ∧ W.cell? ⟨w.heap.size, 6, none⟩ = some (.bool r.again) ∧ W.cell? ⟨w.heap.size, 7, none⟩ = some (.int .i64 r.capture) ∧ W.cell? ⟨w.heap.size, 8, none⟩ = some (.int .i64 r.slam) ∧ W.cell? ⟨wr.heap.size, 0, none⟩ = some (.int .i64 x.1.move) ∧ W.cell? ⟨wr.heap.size, 1, none⟩ = some (.int .i64 x.1.gain) ∧ W.cell? ⟨wr.heap.size, 2, none⟩ = some (.bool x.1.again) ∧ W.cell? ⟨wr.heap.size, 3, none⟩ = some (.slice x.2.pa x.1.pits.length x.2.pc) ∧ W.cell? ⟨wr.heap.size, 4, none⟩ = some (.slice x.2.sa x.1.stores.length x.2.sc) ∧ W.cell? ⟨wr.heap.size, 5, none⟩ = some (.int .i64 x.1.player)) (n := 17) (listed := #[false, false, false, false, false, false, false, false, false, false, false, false, false, false, false, false, false]) (by kernel_rfl) (by rfl) (by rfl) ?_ (fun hHeld => ?_)
    (focus ((try dsimp only); (first | done | ((first | exact HKP.out _ (fun o => hcD _ _ (by omega) hnA) (fun o => hcD _ _ (by omega) hnB) | exact HKP.out _ (fun o => hcC _ _ (by omega)) (fun o => hcC _ _ (by omega)) | exact HKP.out _ (fun o => hcB _ _ (by omega)) (fun o => hcB _ _ (by omega)) | exact HKP.out _ (fun o => rfl) (fun o => rfl)); done))))
    (refine takeH (i := 0) (v := ?_) (by decide +kernel) (by decide +kernel) (by kernel_rfl) (by rfl) (by exact fun _ _ _ h => h) (by rfl) ?_ (by assumption) ?_); rotate_left; (focus (intro w hSw; (try dsimp only at hSw); go_simp; (try with_reducible rfl); done)); (try simp only [Act.put, List.setIfInBounds_toArray, List.set_cons_zero, List.set_cons_succ])
    (refine takeH (i := 1) (v := ?_) (by decide +kernel) (by decide +kernel) (by kernel_rfl) (by rfl) (by exact fun _ _ _ h => h) (by rfl) ?_ (by assumption) ?_); rotate_left; (focus (intro w hSw; (try dsimp only at hSw); go_simp; (try with_reducible rfl); done)); (try simp only [Act.put, List.setIfInBounds_toArray, List.set_cons_zero, List.set_cons_succ])
    (refine takeH (i := 2) (v := ?_) (by decide +kernel) (by decide +kernel) (by kernel_rfl) (by rfl) (by exact fun _ _ _ h => h) (by rfl) ?_ (by assumption) ?_); rotate_left; (focus (intro w hSw; (try dsimp only at hSw); go_simp; (try with_reducible rfl); done)); (try simp only [Act.put, List.setIfInBounds_toArray, List.set_cons_zero, List.set_cons_succ])
    (refine takeH (i := 3) (v := ?_) (by decide +kernel) (by decide +kernel) (by kernel_rfl) (by rfl) (by exact fun _ _ _ h => h) (by rfl) ?_ (by assumption) ?_); rotate_left; (focus (intro w hSw; (try dsimp only at hSw); go_simp; (try with_reducible rfl); done)); (try simp only [Act.put, List.setIfInBounds_toArray, List.set_cons_zero, List.set_cons_succ])
    (refine takeH (i := 4) (v := ?_) (by decide +kernel) (by decide +kernel) (by kernel_rfl) (by rfl) (by exact fun _ _ _ h => h) (by rfl) ?_ (by assumption) ?_); rotate_left; (focus (intro w hSw; (try dsimp only at hSw); go_simp; (try with_reducible rfl); done)); (try simp only [Act.put, List.setIfInBounds_toArray, List.set_cons_zero, List.set_cons_succ])
    (refine takeH (i := 5) (v := ?_) (by decide +kernel) (by decide +kernel) (by kernel_rfl) (by rfl) (by exact fun _ _ _ h => h) (by rfl) ?_ (by assumption) ?_); rotate_left; (focus (intro w hSw; (try dsimp only at hSw); go_simp; (try with_reducible rfl); done)); (try simp only [Act.put, List.setIfInBounds_toArray, List.set_cons_zero, List.set_cons_succ])
    (refine takeH (i := 6) (v := ?_) (by decide +kernel) (by decide +kernel) (by kernel_rfl) (by rfl) (by exact fun _ _ _ h => h) (by rfl) ?_ (by assumption) ?_); rotate_left; (focus (intro w hSw; (try dsimp only at hSw); go_simp; (try with_reducible rfl); done)); (try simp only [Act.put, List.setIfInBounds_toArray, List.set_cons_zero, List.set_cons_succ])
    (refine takeH (i := 7) (v := ?_) (by decide +kernel) (by decide +kernel) (by kernel_rfl) (by rfl) (by exact fun _ _ _ h => h) (by rfl) ?_ (by assumption) ?_); rotate_left; (focus (intro w hSw; (try dsimp only at hSw); go_simp; (try with_reducible rfl); done)); (try simp only [Act.put, List.setIfInBounds_toArray, List.set_cons_zero, List.set_cons_succ])
    (refine takeH (i := 8) (v := ?_) (by decide +kernel) (by decide +kernel) (by kernel_rfl) (by rfl) (by exact fun _ _ _ h => h) (by rfl) ?_ (by assumption) ?_); rotate_left; (focus (intro w hSw; (try dsimp only at hSw); go_simp; (try with_reducible rfl); done)); (try simp only [Act.put, List.setIfInBounds_toArray, List.set_cons_zero, List.set_cons_succ])
    (refine takeH (i := 9) (v := ?_) (by decide +kernel) (by decide +kernel) (by kernel_rfl) (by rfl) (by exact fun _ _ _ h => h) (by rfl) ?_ (by assumption) ?_); rotate_left; (focus (intro w hSw; (try dsimp only at hSw); go_simp; (try with_reducible rfl); done)); (try simp only [Act.put, List.setIfInBounds_toArray, List.set_cons_zero, List.set_cons_succ])
    (refine takeH (i := 10) (v := ?_) (by decide +kernel) (by decide +kernel) (by kernel_rfl) (by rfl) (by exact fun _ _ _ h => h) (by rfl) ?_ (by assumption) ?_); rotate_left; (focus (intro w hSw; (try dsimp only at hSw); go_simp; (try with_reducible rfl); done)); (try simp only [Act.put, List.setIfInBounds_toArray, List.set_cons_zero, List.set_cons_succ])
    (refine takeH (i := 11) (v := ?_) (by decide +kernel) (by decide +kernel) (by kernel_rfl) (by rfl) (by exact fun _ _ _ h => h) (by rfl) ?_ (by assumption) ?_); rotate_left; (focus (intro w hSw; (try dsimp only at hSw); go_simp; (try with_reducible rfl); done)); (try simp only [Act.put, List.setIfInBounds_toArray, List.set_cons_zero, List.set_cons_succ])
    (refine takeH (i := 12) (v := ?_) (by decide +kernel) (by decide +kernel) (by kernel_rfl) (by rfl) (by exact fun _ _ _ h => h) (by rfl) ?_ (by assumption) ?_); rotate_left; (focus (intro w hSw; (try dsimp only at hSw); go_simp; (try with_reducible rfl); done)); (try simp only [Act.put, List.setIfInBounds_toArray, List.set_cons_zero, List.set_cons_succ])
    (refine takeH (i := 15) (v := ?_) (by decide +kernel) (by decide +kernel) (by kernel_rfl) (by rfl) (by exact fun _ _ _ h => h) (by rfl) ?_ (by assumption) ?_); rotate_left; (focus (intro w hSw; (try dsimp only at hSw); go_simp; (try with_reducible rfl); done)); (try simp only [Act.put, List.setIfInBounds_toArray, List.set_cons_zero, List.set_cons_succ])
    refine nextH (i := 13) (by decide +kernel) (by rfl) (by rfl) (fun K hK => ?_)
    (first | ((refine wp_append_grows _ _ _ 24 rfl 2 i0 _ 1 8 Try.underlying24 hi hz0 hz1 hz2 rfl (by decide) ma ms.length ms.length (ms.map (Value.int .i64)) rfl HMZ.out.1 (by simp) HMZ.out.2 ⟨wr.heap.size + 1, 0, none⟩ 1 1 [.int .i64 x.1.move] rfl rfl (by intro j z hz; match j, hz with | 0, hz => (simp at hz; subst hz; simp [Addr.add, ← hzX])) (by intro z hz; simp at hz; subst hz; rfl) (by omega) (by unfold maxLen; omega) (by omega) ?_); (intro ta tc w6 hown6 hg6); (have HT6 := Lib.hid (app_moves hown6 (show C < _ by simp; omega))); (have HB6 : Hid (Below wr.heap.size wr w6 ∧ wr.heap.size + 1 ≤ w6.heap.size) := ⟨below_next (below_next HB5.out (below_alloc1 X (.cells #[.int .i64 x.1.move] 2)).drew) (grown_none hg6), by have := hg6.size; simp at this; omega⟩); (have hcC : ∀ b o, b < wr.heap.size + 1 → w6.cell? ⟨b, o, none⟩ = X.cell? ⟨b, o, none⟩ := fun b o h => ((grown_none hg6).cell (show (Addr.mk b o none).block < _ from (by simp; omega))).trans (hcB b o h)); clear hown6 hg6) | (go_simp; (first | (go_at_call 29; (refine (HCC.out _ ta tc _ (ms ++ [x.1.move]) HB6.out.1 HT6.out.1 HT6.out.2.1 HT6.out.2.2.1 HT6.out.2.2.2 HM1.out).mono ?_); (rintro e w7 ⟨rfl, hI7, hC7⟩); (have hcD : ∀ b o, b < wr.heap.size + 1 → ¬ b = C → w7.cell? ⟨b, o, none⟩ = X.cell? ⟨b, o, none⟩ := fun b o h1 h2 => (World.cell?_of_block (w := w6) (hC7.block b (by have := HB6.out.2; omega) (by omega))).trans (hcC b o h1))) | ((have hcB : ∀ b o, b < wr.heap.size + 1 → ((X.alloc (.cells #[.int .i64 x.1.move] 2)).drew).cell? ⟨b, o, none⟩ = X.cell? ⟨b, o, none⟩ := fun b o h => (below_alloc1 X (.cells #[.int .i64 x.1.move] 2)).cell (show (Addr.mk b o none).block < _ from (by rw [hzX]; exact h))); (have HMZ : Hid ((ma = none → ms.length = 0 ∧ ms.length = 0) ∧ (∀ b, ma = some b → ∀ j u, (ms.map (Value.int .i64))[j]? = some u → ((X.alloc (.cells #[.int .i64 x.1.move] 2)).drew).cell? (b.add j) = some u)) := ⟨fun e => ⟨hmn e, hmn e⟩, row_holds (HMW.out.below (below_alloc1 X.drew (.cells #[.int .i64 x.1.move] 2)) (Nat.le_refl _)).1⟩)))))
    refine hK.out _ _ ?_ (fun hHeld' => ?_)
    (focus ((try dsimp only); (first | done | ((first | exact HKP.out _ (fun o => hcD _ _ (by omega) hnA) (fun o => hcD _ _ (by omega) hnB) | exact HKP.out _ (fun o => hcC _ _ (by omega)) (fun o => hcC _ _ (by omega)) | exact HKP.out _ (fun o => hcB _ _ (by omega)) (fun o => hcB _ _ (by omega)) | exact HKP.out _ (fun o => rfl) (fun o => rfl)); done))))
    clear hK K hHeld
    have hHeld := hHeld'
    clear hHeld'
    (try simp only [Act.put, List.setIfInBounds_toArray, List.set_cons_zero, List.set_cons_succ])
    refine nextH (i := 14) (by decide +kernel) (by rfl) (by rfl) (fun K hK => ?_)
    (first | ((refine wp_append_grows _ _ _ 24 rfl 2 i0 _ 1 8 Try.underlying24 hi hz0 hz1 hz2 rfl (by decide) ma ms.length ms.length (ms.map (Value.int .i64)) rfl HMZ.out.1 (by simp) HMZ.out.2 ⟨wr.heap.size + 1, 0, none⟩ 1 1 [.int .i64 x.1.move] rfl rfl (by intro j z hz; match j, hz with | 0, hz => (simp at hz; subst hz; simp [Addr.add, ← hzX])) (by intro z hz; simp at hz; subst hz; rfl) (by omega) (by unfold maxLen; omega) (by omega) ?_); (intro ta tc w6 hown6 hg6); (have HT6 := Lib.hid (app_moves hown6 (show C < _ by simp; omega))); (have HB6 : Hid (Below wr.heap.size wr w6 ∧ wr.heap.size + 1 ≤ w6.heap.size) := ⟨below_next (below_next HB5.out (below_alloc1 X (.cells #[.int .i64 x.1.move] 2)).drew) (grown_none hg6), by have := hg6.size; simp at this; omega⟩); (have hcC : ∀ b o, b < wr.heap.size + 1 → w6.cell? ⟨b, o, none⟩ = X.cell? ⟨b, o, none⟩ := fun b o h => ((grown_none hg6).cell (show (Addr.mk b o none).block < _ from (by simp; omega))).trans (hcB b o h)); clear hown6 hg6) | (go_simp; (first | (go_at_call 29; (refine (HCC.out _ ta tc _ (ms ++ [x.1.move]) HB6.out.1 HT6.out.1 HT6.out.2.1 HT6.out.2.2.1 HT6.out.2.2.2 HM1.out).mono ?_); (rintro e w7 ⟨rfl, hI7, hC7⟩); (have hcD : ∀ b o, b < wr.heap.size + 1 → ¬ b = C → w7.cell? ⟨b, o, none⟩ = X.cell? ⟨b, o, none⟩ := fun b o h1 h2 => (World.cell?_of_block (w := w6) (hC7.block b (by have := HB6.out.2; omega) (by omega))).trans (hcC b o h1))) | ((have hcB : ∀ b o, b < wr.heap.size + 1 → ((X.alloc (.cells #[.int .i64 x.1.move] 2)).drew).cell? ⟨b, o, none⟩ = X.cell? ⟨b, o, none⟩ := fun b o h => (below_alloc1 X (.cells #[.int .i64 x.1.move] 2)).cell (show (Addr.mk b o none).block < _ from (by rw [hzX]; exact h))); (have HMZ : Hid ((ma = none → ms.length = 0 ∧ ms.length = 0) ∧ (∀ b, ma = some b → ∀ j u, (ms.map (Value.int .i64))[j]? = some u → ((X.alloc (.cells #[.int .i64 x.1.move] 2)).drew).cell? (b.add j) = some u)) := ⟨fun e => ⟨hmn e, hmn e⟩, row_holds (HMW.out.below (below_alloc1 X.drew (.cells #[.int .i64 x.1.move] 2)) (Nat.le_refl _)).1⟩)))))
    refine hK.out _ _ ?_ (fun hHeld' => ?_)
    (focus ((try dsimp only); (first | done | ((first | exact HKP.out _ (fun o => hcD _ _ (by omega) hnA) (fun o => hcD _ _ (by omega) hnB) | exact HKP.out _ (fun o => hcC _ _ (by omega)) (fun o => hcC _ _ (by omega)) | exact HKP.out _ (fun o => hcB _ _ (by omega)) (fun o => hcB _ _ (by omega)) | exact HKP.out _ (fun o => rfl) (fun o => rfl)); done))))
    clear hK K hHeld
    have hHeld := hHeld'
    clear hHeld'
    (try simp only [Act.put, List.setIfInBounds_toArray, List.set_cons_zero, List.set_cons_succ])
    refine nextH (i := 16) (by decide +kernel) (by rfl) (by rfl) (fun K hK => ?_)
    (first | ((refine wp_append_grows _ _ _ 24 rfl 2 i0 _ 1 8 Try.underlying24 hi hz0 hz1 hz2 rfl (by decide) ma ms.length ms.length (ms.map (Value.int .i64)) rfl HMZ.out.1 (by simp) HMZ.out.2 ⟨wr.heap.size + 1, 0, none⟩ 1 1 [.int .i64 x.1.move] rfl rfl (by intro j z hz; match j, hz with | 0, hz => (simp at hz; subst hz; simp [Addr.add, ← hzX])) (by intro z hz; simp at hz; subst hz; rfl) (by omega) (by unfold maxLen; omega) (by omega) ?_); (intro ta tc w6 hown6 hg6); (have HT6 := Lib.hid (app_moves hown6 (show C < _ by simp; omega))); (have HB6 : Hid (Below wr.heap.size wr w6 ∧ wr.heap.size + 1 ≤ w6.heap.size) := ⟨below_next (below_next HB5.out (below_alloc1 X (.cells #[.int .i64 x.1.move] 2)).drew) (grown_none hg6), by have := hg6.size; simp at this; omega⟩); (have hcC : ∀ b o, b < wr.heap.size + 1 → w6.cell? ⟨b, o, none⟩ = X.cell? ⟨b, o, none⟩ := fun b o h => ((grown_none hg6).cell (show (Addr.mk b o none).block < _ from (by simp; omega))).trans (hcB b o h)); clear hown6 hg6) | (go_simp; (first | (go_at_call 29; (refine (HCC.out _ ta tc _ (ms ++ [x.1.move]) HB6.out.1 HT6.out.1 HT6.out.2.1 HT6.out.2.2.1 HT6.out.2.2.2 HM1.out).mono ?_); (rintro e w7 ⟨rfl, hI7, hC7⟩); (have hcD : ∀ b o, b < wr.heap.size + 1 → ¬ b = C → w7.cell? ⟨b, o, none⟩ = X.cell? ⟨b, o, none⟩ := fun b o h1 h2 => (World.cell?_of_block (w := w6) (hC7.block b (by have := HB6.out.2; omega) (by omega))).trans (hcC b o h1))) | ((have hcB : ∀ b o, b < wr.heap.size + 1 → ((X.alloc (.cells #[.int .i64 x.1.move] 2)).drew).cell? ⟨b, o, none⟩ = X.cell? ⟨b, o, none⟩ := fun b o h => (below_alloc1 X (.cells #[.int .i64 x.1.move] 2)).cell (show (Addr.mk b o none).block < _ from (by rw [hzX]; exact h))); (have HMZ : Hid ((ma = none → ms.length = 0 ∧ ms.length = 0) ∧ (∀ b, ma = some b → ∀ j u, (ms.map (Value.int .i64))[j]? = some u → ((X.alloc (.cells #[.int .i64 x.1.move] 2)).drew).cell? (b.add j) = some u)) := ⟨fun e => ⟨hmn e, hmn e⟩, row_holds (HMW.out.below (below_alloc1 X.drew (.cells #[.int .i64 x.1.move] 2)) (Nat.le_refl _)).1⟩)))))
    refine hK.out _ _ ?_ (fun hHeld' => ?_)
    (focus ((try dsimp only); (first | done | ((first | exact HKP.out _ (fun o => hcD _ _ (by omega) hnA) (fun o => hcD _ _ (by omega) hnB) | exact HKP.out _ (fun o => hcC _ _ (by omega)) (fun o => hcC _ _ (by omega)) | exact HKP.out _ (fun o => hcB _ _ (by omega)) (fun o => hcB _ _ (by omega)) | exact HKP.out _ (fun o => rfl) (fun o => rfl)); done))))
    clear hK K hHeld
    have hHeld := hHeld'
    clear hHeld'
    (try simp only [Act.put, List.setIfInBounds_toArray, List.set_cons_zero, List.set_cons_succ])
    refine wpAnyH_done (by decide +kernel) ?_ _
    have HF : Hid (CInv w7 C RB r n' ∧ Chg C (C + 1) wr w7) := ⟨hI7, (Chg.ofBelow HB6.out.1).trans hC7⟩
    have HN : Hid (EsSt w w7 C RB r f d' l (some ⟨g, 0, none⟩) c g (k + 1) n' y) :=
      ⟨by omega, HG.out, HN0.out.1, HN0.out.2, HF.out.2.mksOwn HST.out.own (by omega), HF.out.2.boxP HST.out.box hgC, HF.out.2.boxP HST.out.rx hnA, HF.out.1, HST.out.chg.trans HF.out.2⟩
    clear HCC hcB hcC hcD hI7 hC7 HT6 HB6 HMZ hHeld hXd HF HB5 HMW
    go_wp2
    go_roundw
    case rel => exact ⟨k + 1, n', by go_num, HN.out⟩
    case measure => (simp [intOf]; omega)
theorem eachLineA_c (r : R) (f : P → Int) (C RB : Nat) (hf : ∀ q, 0 ≤ f q ∧ f q ≤ 1) (HK : ClC r 39 (capA C RB) f C RB) : ∀ (d : Nat), d ≤ 8 → ElA r f C RB d
  | 0, h => eachLineA_step r f C RB 0 hf HK h (fun d' e => absurd e (by omega))
  | d + 1, h => eachLineA_step r f C RB (d + 1) hf HK h (fun d' e => by
    obtain rfl : d = d' := by omega
    exact eachLineA_c r f C RB hf HK d (by omega))

/-! ### Cnt2: how many lines there are, of a length and of each length, and how many of them end: the program's functions. Each contract holds for every argument, under the premises that it states. -/
def cntL (r : R) (p : P) (D : Nat) : List Int := (List.range (D + 1)).map (fun j => cntT r j p)
def finL (r : R) (p : P) (D : Nat) : List Int := (List.range (D + 1)).map (fun j => fnT r j p)
def clinesP (r : R) (p : P) (d : Int) : Int × Int := if srchC r p d = 0 then (cntT r d.toNat p, 0) else (0, srchC r p d)
def lvlP (r : R) (p : P) (d : Int) : List Int × Int := if srchC r p d = 0 then (cntL r p d.toNat, 0) else ([], srchC r p d)
def cfinP (r : R) (p : P) (d : Int) : Int × Int := if srchC r p d = 0 then ((finL r p d.toNat).sum, 0) else (0, srchC r p d)
def firstPos : List Int → Nat → Int × Int
  | [], _ => (0, 3)
  | x :: l, k => if x > 0 then (k, 0) else firstPos l (k + 1)
def shortP (r : R) (p : P) (d : Int) : Int × Int := if srchC r p d = 0 then firstPos (finL r p d.toNat) 0 else (0, srchC r p d)
theorem cntT_bd {r : R} {p : P} (h : p.ok r = true) {j : Nat} (hj : j ≤ 8) : 0 ≤ cntT r j p ∧ cntT r j p ≤ 200000000 := by
  have h1 := lnT_bd r oneF oneF_bd j p h
  have h2 := P8_le j (by omega)
  unfold cntT
  omega
theorem fnT_bd {r : R} {p : P} (h : p.ok r = true) {j : Nat} (hj : j ≤ 8) : 0 ≤ fnT r j p ∧ fnT r j p ≤ 200000000 := by
  have h1 := lnT_bd r (finF r) (finF_bd r) j p h
  have h2 := P8_le j (by omega)
  unfold fnT
  omega
theorem cntL_bd {r : R} {p : P} (h : p.ok r = true) {D : Nat} (hD : D ≤ 8) : ∀ v ∈ cntL r p D, 0 ≤ v ∧ v ≤ 200000000 := by
  intro v hv
  obtain ⟨j, hj, rfl⟩ := List.mem_map.1 hv
  have := List.mem_range.1 hj
  exact cntT_bd h (by omega)
theorem finL_bd {r : R} {p : P} (h : p.ok r = true) {D : Nat} (hD : D ≤ 8) : ∀ v ∈ finL r p D, 0 ≤ v ∧ v ≤ 200000000 := by
  intro v hv
  obtain ⟨j, hj, rfl⟩ := List.mem_map.1 hv
  have := List.mem_range.1 hj
  exact fnT_bd h (by omega)
theorem cntL_len (r : R) (p : P) (D : Nat) : (cntL r p D).length = D + 1 := by simp [cntL]
theorem finL_len (r : R) (p : P) (D : Nat) : (finL r p D).length = D + 1 := by simp [finL]
theorem psum_bdB {xs : List Int} (h : ∀ v ∈ xs, 0 ≤ v ∧ v ≤ 200000000) (k : Nat) : 0 ≤ psum xs k ∧ psum xs k ≤ 200000000 * (k : Int) := by
  unfold psum
  have key : ∀ l : List Int, (∀ v ∈ l, 0 ≤ v ∧ v ≤ 200000000) → 0 ≤ l.sum ∧ l.sum ≤ 200000000 * (l.length : Int) := by
    intro l
    induction l with
    | nil => intro _; simp
    | cons x l ih =>
      intro hx
      have h1 := hx x (by simp)
      have h2 := ih (fun v hv => hx v (by simp [hv]))
      simp only [List.sum_cons, List.length_cons]
      omega
  have h1 := key (xs.take k) (fun v hv => h v (List.mem_of_mem_take hv))
  have h2 : (xs.take k).length ≤ k := List.length_take_le _ _
  omega
theorem none_rowN (C : Nat) (w : World) : RowN C w none [] := ⟨fun j v hv => by simp at hv, fun _ _ _ h => by cases h⟩
def IntsRes1 (w : World) (xs : List Int) (e : Ending) (w' : World) : Prop := ∃ a c, e = .returned (.slice a xs.length c) ∧ OwnI w' w.heap.size a c xs ∧ Below w.heap.size w w'

set_option maxRecDepth 100000 in
set_option maxHeartbeats 8000000 in
theorem countLines_c (r : R) (D : Nat) (hD : D ≤ 8) (p : P) (hok : p.ok r = true) (pa sa : Option Addr) (pc sc : Nat) (w : World) (h : PRow w p pa sa) (hc : p.pits.length ≤ pc) (hcm : pc ≤ maxLen) :
    Calls Try.prog 27 #[r.val, p.val pa pc sa sc, .int .i64 (D : Int)] w fun e w' => e = .returned (.int .i64 (cntT r D p)) ∧ Below w.heap.size w w' := by
  have F0 := (((Fr.start w).alloc r.cells 30).alloc (p.cells pa pc sa sc) 32).allocF #[.int .i64 0] 2
  simp only [World.size_alloc] at F0
  obtain ⟨bx, bf⟩ := F0.at 0 rfl
  obtain ⟨n1, n2⟩ := prow_n hok h (S := w.heap.size + 1 + 1) (by omega)
  have hp8 := P8_le D (by omega)
  have hmf : ∀ (fn : Fn) (first cap : Array Value) (w : World), (Instr.makeFunc fn first cap).run Try.prog w = .ok (.func fn first cap) w := fun _ _ _ _ => rfl
  have HC := Lib.hid (eachLineA_c r oneF (w.heap.size + 1 + 1) w.heap.size oneF_bd (countLines1_c r _ _) D hD p hok pa sa pc sc none 0 [] _ 0 ⟨bx 0 _ rfl, bf, F0.at 2 rfl, by omega⟩ (n1.below F0.below (Nat.le_refl _)) (n2.below F0.below (Nat.le_refl _)) hc hcm (none_rowN _ _) (by simp) (fun _ => rfl) (by simp; omega) (by omega) (by omega))
  have HE : Hid (0 + lnT r oneF D p = cntT r D p) := by unfold Hid cntT; omega
  obtain ⟨x0, x1, x2⟩ := P.boxc (F0.at 1 rfl)
  obtain ⟨c0, c1, c2, c3, c4, c5, c6, c7, c8⟩ := R.boxc (F0.at 2 rfl)
  have HB := Lib.hid F0.below
  clear bx bf n1 n2 hok h F0
  go_enter Try.func27, Try.ntmps27
  go_wp2_with fail
  refine HC.out.mono ?_
  rintro e w1 ⟨rfl, hI1, hC1⟩
  have HB1 : Hid (Below w.heap.size w w1) := hC1.below HB.out (by omega)
  have z0 := hI1.c0
  rw [HE.out] at z0
  clear hI1 hC1 x0 x1 x2 c0 c1 c2 c3 c4 c5 c6 c7 c8
  go_wp2
  go_ret
  exact ⟨rfl, HB1.out⟩


end Go.Proofs.Ytolfanonjmfgcaa
