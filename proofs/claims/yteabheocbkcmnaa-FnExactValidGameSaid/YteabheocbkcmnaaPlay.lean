/- Play: the positions of a game: the reference's function. Each contract holds for every argument, under the premises that it states. -/
import Derived.Test.YteabheocbkcmnaaLine
import Derived.Test.YteabheocbkcmnaaOwn
import Derived.Test.YteabheocbkcmnaaSets
import Derived.Deep.AppendLies
namespace Go.Proofs.Yteabheocbkcmnaa
set_option linter.unusedSimpArgs false
set_option linter.unusedVariables false
set_option linter.unnecessarySimpa false
open Go.RowKit Go.ChangeShapes Go.WideShapes Go.ChangeAt Go.Joins

/-- the position after some moves, if all of them are legal -/
def runGo (r : R) : P → List Int → Option P
  | q, [] => some q
  | q, m :: ms => if (makeP r q m).code = 0 then runGo r ⟨(makeP r q m).pits, (makeP r q m).stores, (makeP r q m).player⟩ ms else none

/-! ### rows that lie in the blocks from lo to hi -/
def RowsP (lo hi : Nat) (q : P) (A : A2) : World → Prop := fun w => PRow w q A.pa A.sa ∧ (∀ b o t, A.pa = some ⟨b, o, t⟩ → 0 < q.pits.length → lo ≤ b ∧ b < hi) ∧ (∀ b o t, A.sa = some ⟨b, o, t⟩ → 0 < q.stores.length → lo ≤ b ∧ b < hi)
theorem row_stab {lo hi : Nat} {a : Option Addr} {vs : List Value} {w w' : World} (h : Row w a vs) (ha : ∀ b o t, a = some ⟨b, o, t⟩ → 0 < vs.length → lo ≤ b ∧ b < hi) (hk : ∀ k, lo ≤ k → k < hi → w'.heap[k]? = w.heap[k]?) : Row w' a vs := by
  intro j v hv
  obtain ⟨b, o, e, hc⟩ := h j v hv
  have hl : j < vs.length := (List.getElem?_eq_some_iff.1 hv).1
  have := ha b o none e (by omega)
  exact ⟨b, o, e, cell_stab hc (hk b this.1 this.2)⟩
theorem RowsP.stab (lo hi : Nat) (q : P) (A : A2) : Stab lo hi (RowsP lo hi q A) := fun w w' h hk =>
  ⟨⟨row_stab h.1.pits (fun b o t e hl => h.2.1 b o t e (by simpa using hl)) hk, row_stab h.1.stores (fun b o t e hl => h.2.2 b o t e (by simpa using hl)) hk⟩, h.2⟩
theorem RowsP.arg {w : World} {q : P} {A : A2} (h : PRow w q A.pa A.sa) : RowsP 0 w.heap.size q A w := by
  refine ⟨h, fun b o t e hl => ?_, fun b o t e hl => ?_⟩
  · obtain ⟨b', o', e', hb, _⟩ := Ints.open h.pits hl
    rw [e] at e'; cases e'; omega
  · obtain ⟨b', o', e', hb, _⟩ := Ints.open h.stores hl
    rw [e] at e'; cases e'; omega
theorem RowsP.own {w : World} {lo : Nat} {q : P} {A : A2} (h : POwn w lo q A.pa A.pc A.sa A.sc) : RowsP lo w.heap.size q A w := by
  refine ⟨h.row, fun b o t e hl => ?_, fun b o t e hl => ?_⟩
  · exact h.pits.lt b (by rw [e]; rfl)
  · exact h.stores.lt b (by rw [e]; rfl)
theorem Fr.rows {w0 w : World} {ls : List Res} (h : Fr w0 w ls) {lo hi : Nat} {q : P} {A : A2} (hr : RowsP lo hi q A w) (hh : hi ≤ w.heap.size) : Fr w0 w (⟨lo, hi, RowsP lo hi q A⟩ :: ls) :=
  h.add _ _ _ (RowsP.stab _ _ _ _) hr hh
theorem Fr.bx {w0 w : World} {ls : List Res} (h : Fr w0 w ls) {b : Nat} {cs : List Value} (hb : Bx b cs w) (hl : 0 < cs.length) : Fr w0 w (⟨b, b + 1, Bx b cs⟩ :: ls) :=
  h.add _ _ _ (fun w w' h hk => ⟨BoxP.stab b cs w w' h.box (fun k k1 k2 => hk k k1 k2), fun o => (World.frozen?_of_block (w := w) (hk b (Nat.le_refl _) (by omega))).trans (h.free o)⟩) hb (hb.lt hl)

/-! ### a row of the call's own, in one block -/
@[reducible] def RowB (g : Nat) (e : TypeId) (size n c : Nat) (vs : List Value) : World → Prop := fun w => w.ownsRow g e size (.slice (some ⟨g, 0, none⟩) n c) n vs
theorem RowB.up {w : World} {b g : Nat} {e : TypeId} {size n c : Nat} {vs : List Value} (h : w.ownsRow b e size (.slice (some ⟨g, 0, none⟩) n c) n vs) : RowB g e size n c vs w := by
  obtain ⟨h1, ⟨h2, _⟩ | ⟨g', cap, cur, hv, hb, r⟩⟩ := h
  · cases h2
  · cases hv
    exact ⟨h1, .inr ⟨g, c, cur, rfl, Nat.le_refl _, r⟩⟩
theorem RowB.stab (g : Nat) (e : TypeId) (size n c : Nat) (vs : List Value) : Stab g (g + 1) (RowB g e size n c vs) := fun w w' h hk =>
  own_stab (Nat.le_refl _) h (fun k hk => by cases hk; exact Nat.lt_succ_self _) hk
theorem RowB.lt {w : World} {g : Nat} {e : TypeId} {size n c : Nat} {vs : List Value} (h : RowB g e size n c vs w) : g < w.heap.size := (World.ownsRow.lt h g rfl).2
theorem Fr.rowB {w0 w : World} {ls : List Res} (h : Fr w0 w ls) {g : Nat} {e : TypeId} {size n c : Nat} {vs : List Value} (ho : RowB g e size n c vs w) : Fr w0 w (⟨g, g + 1, RowB g e size n c vs⟩ :: ls) :=
  h.add _ _ _ (RowB.stab _ _ _ _ _ _) ho ho.lt
/-- an append to the row that stands first -/
theorem Fr.appB {w0 w w' : World} {ls : List Res} {g g' : Nat} {e : TypeId} {size n c n' c' : Nat} {vs vs' : List Value} (h : Fr w0 w (⟨g, g + 1, RowB g e size n c vs⟩ :: ls)) (hw : w0.heap.size ≤ g) (hd : ∀ r ∈ ls, r.hi ≤ g ∨ g + 1 ≤ r.lo)
    (hg : w.grownBy w' (some g)) (ho : w'.ownsRow g e size (.slice (some ⟨g', 0, none⟩) n' c') n' vs') : Fr w0 w' (⟨g', g' + 1, RowB g' e size n' c' vs'⟩ :: ls) :=
  (h.chg (Chg.ofGrown (v := .slice (some ⟨g, 0, none⟩) n c) hg (fun k hk => by cases hk; exact ⟨Nat.le_refl _, Nat.lt_succ_self _⟩)) hw hd).rowB (RowB.up ho)
theorem Fr.swap {w0 w : World} {a b : Res} {ls : List Res} (h : Fr w0 w (a :: b :: ls)) : Fr w0 w (b :: a :: ls) := ⟨h.below, fun r hr => h.res r (by simp at hr ⊢; rcases hr with rfl | rfl | hr <;> simp [*])⟩
theorem Fr.sub {w0 w : World} {ls ms : List Res} (h : Fr w0 w ls) (hm : ∀ r ∈ ms, r ∈ ls) : Fr w0 w ms := ⟨h.below, fun r hr => h.res r (hm r hr)⟩
theorem RowB.lit (w : World) (xs : Array Value) (e : TypeId) (size n : Nat) (hm : n ≤ maxLen) (hx : xs.size = n * size) {g : Nat} (hg : g = w.heap.size) : RowB g e size n n xs.toList (w.alloc (.cells xs e)) := by
  subst hg
  exact World.ownsRow_lit w xs n (Nat.le_refl _) hm hx
/-- the third item, a box, is stored anew -/
theorem Fr.set3 {w0 w : World} {a b : Res} {ls : List Res} {B : Nat} {cs : List Value} (h : Fr w0 w (a :: b :: ⟨B, B + 1, Bx B cs⟩ :: ls)) (v0 v1 v2 : Value) (hl : cs.length = 3) (hw : w0.heap.size ≤ B) (ha : a.hi ≤ B ∨ B + 1 ≤ a.lo) (hb : b.hi ≤ B ∨ B + 1 ≤ b.lo) (hd : ∀ r ∈ ls, r.hi ≤ B ∨ B + 1 ≤ r.lo) :
    Fr w0 (((w.setCell ⟨B, 0, none⟩ v0).setCell ⟨B, 1, none⟩ v1).setCell ⟨B, 2, none⟩ v2) (a :: b :: ⟨B, B + 1, Bx B [v0, v1, v2]⟩ :: ls) := by
  have hx := (h.at 2 rfl).sets_all (vs := [v0, v1, v2]) (by rw [hl]; rfl)
  have hc := chg_sets B [v0, v1, v2] 0 w
  have h1 := (h.chgAt 2 hc hw (fun r hr => by
    simp only [List.eraseIdx_cons_succ, List.eraseIdx_cons_zero, List.mem_cons] at hr
    rcases hr with rfl | rfl | hr
    · exact ha
    · exact hb
    · exact hd r hr)).bx hx (by simp)
  exact h1.sub (fun r hr => by
    simp only [List.eraseIdx_cons_succ, List.eraseIdx_cons_zero, List.mem_cons] at hr ⊢
    rcases hr with rfl | rfl | rfl | hr <;> simp [*])
theorem infoP3 : (Try.prog.info? 27).map (fun i => (i.zero, i.size, i.bytes)) = some (some (.agg #[.slice none 0 0, .slice none 0 0, .int .i64 0]), 3, 56) := by kernel_rfl
theorem info_parts3 {e : TypeId} {z : Value} {bytes : Nat} (h : (Try.prog.info? e).map (fun i => (i.zero, i.size, i.bytes)) = some (some z, 3, bytes)) :
    ∃ i, Try.prog.info? e = some i ∧ i.zero = some z ∧ i.size = 3 ∧ i.bytes = bytes := by
  cases hi : Try.prog.info? e with
  | none => rw [hi] at h; cases h
  | some i =>
    rw [hi] at h
    simp only [Option.map_some, Option.some.injEq, Prod.mk.injEq] at h
    exact ⟨i, rfl, h.1, h.2.1, h.2.2⟩
theorem infoI1 : (Try.prog.info? 2).map (fun i => (i.zero, i.size, i.bytes)) = some (some (.int .i64 0), 1, 8) := by kernel_rfl
theorem info_parts1 {e : TypeId} {z : Value} {bytes : Nat} (h : (Try.prog.info? e).map (fun i => (i.zero, i.size, i.bytes)) = some (some z, 1, bytes)) :
    ∃ i, Try.prog.info? e = some i ∧ i.zero = some z ∧ i.size = 1 ∧ i.bytes = bytes := by
  cases hi : Try.prog.info? e with
  | none => rw [hi] at h; cases h
  | some i =>
    rw [hi] at h
    simp only [Option.map_some, Option.some.injEq, Prod.mk.injEq] at h
    exact ⟨i, rfl, h.1, h.2.1, h.2.2⟩
/-- where the positions of a game end -/
structure LastAt (w : World) (oa : Option Addr) (n : Nat) (q : P) (A : A2) (g : Nat) : Prop where
  at_ : oa = some ⟨g, 0, none⟩
  n0 : 0 < n
  n1 : n ≤ 1000
  p : P.At w g ((n - 1) * 3) q A.pa A.pc A.sa A.sc
  row : PRow w q A.pa A.sa
  m1 : q.pits.length ≤ 16777216
  m2 : q.stores.length ≤ 16777216
def PlayRes (o : Option P) (w : World) (oa : Option Addr) (n : Nat) : Prop := ∀ q, o = some q → ∃ A g, LastAt w oa n q A g

/-- a round of the reference's run -/
structure RnSt (w wr : World) (r : R) (ms : List Int) (tgt : Option P) (k : Nat) (q : P) (A C : A2) (og oc gg gc B ql qh cl ch : Nat) (us gs : List Value) : Prop where
  kl : k ≤ ms.length
  go : runGo r q (ms.drop k) = tgt
  fr : Fr w wr [⟨og, og + 1, RowB og 27 3 (k + 1) oc (us ++ (q.cells C.pa C.pc C.sa C.sc).toList)⟩, ⟨gg, gg + 1, RowB gg 2 1 k gc gs⟩, ⟨B, B + 1, Bx B (q.cells A.pa A.pc A.sa A.sc).toList⟩, ⟨ql, qh, RowsP ql qh q A⟩, ⟨cl, ch, RowsP cl ch q C⟩]
  dis : w.heap.size ≤ og ∧ w.heap.size ≤ gg ∧ w.heap.size ≤ B ∧ ¬ og = gg ∧ ¬ og = B ∧ ¬ gg = B ∧ (qh ≤ og ∨ og + 1 ≤ ql) ∧ (qh ≤ gg ∨ gg + 1 ≤ ql) ∧ (qh ≤ B ∨ B + 1 ≤ ql) ∧ (ch ≤ og ∨ og + 1 ≤ cl) ∧ (ch ≤ gg ∨ gg + 1 ≤ cl) ∧ (ch ≤ B ∨ B + 1 ≤ cl)
  ul : us.length = k * 3
  m1 : q.pits.length ≤ 16777216
  m2 : q.stores.length ≤ 16777216

set_option maxRecDepth 100000 in
set_option maxHeartbeats 8000000 in
theorem l08Run_c (rb ro pb po : Nat) (r : R) (p : P) (ms : List Int) (pa sa ma : Option Addr) (pc sc mc : Nat) (w : World) (hr : R.At w rb ro r) (hp : P.At w pb po p pa pc sa sc) (h : PRow w p pa sa) (hms : Ints w ma ms) (hml : ms.length ≤ 120) (m1 : p.pits.length ≤ 16777216) (m2 : p.stores.length ≤ 16777216) :
    Calls Try.prog 137 #[.pointer (some ⟨rb, ro, none⟩), .pointer (some ⟨pb, po, none⟩), .slice ma ms.length mc] w fun e w' => ∃ oa on oc ga gn gc, e = .returned (.tuple #[.slice oa on oc, .slice ga gn gc]) ∧ decide (gn = ms.length) = (runGo r p ms).isSome ∧ gn ≤ 1000 ∧ PlayRes (runGo r p ms) w' oa on ∧ Below w.heap.size w w' := by
  obtain ⟨i3, j3, z30, z31, z32⟩ := info_parts3 infoP3
  obtain ⟨i1, j1, z10, z11, z12⟩ := info_parts1 infoI1
  obtain ⟨y, hy⟩ : ∃ y, y = runGo r p ms := ⟨_, rfl⟩
  rw [← hy]
  have hrb : rb < w.heap.size := World.block_lt_of_cell? w _ hr.c0
  have hpb : pb < w.heap.size := World.block_lt_of_cell? w _ hp.c0
  have HR := Lib.hid hr
  have HP := Lib.hid hp
  have HY := Lib.hid hy
  clear hr hp hy
  go_enter Try.func137, Try.ntmps137
  go_wp2_with fail
  refine (l04Own_c pb po p pa sa pc sc _ HP.out h m1 m2).mono ?_
  rintro e w1 ⟨ca, cc, ta, tc, rfl, ho1, hb1⟩
  have C1 := (Fr.start w).step hb1
  have R1 := Lib.hid (RowsP.own (A := ⟨ca, cc, ta, tc⟩) ho1)
  have z1 := hb1.size
  clear ho1
  have B2 : Below w1.heap.size w1 ((w1.alloc (.cells #[.slice ca p.pits.length cc, .slice ta p.stores.length tc, .int .i64 p.player] 27)).alloc (.cells #[] 2)) := (below_alloc1 w1 _).trans ((below_alloc1 _ _).mono (by simp))
  have P2 : P.At ((w1.alloc (.cells #[.slice ca p.pits.length cc, .slice ta p.stores.length tc, .int .i64 p.player] 27)).alloc (.cells #[] 2)) pb po p pa pc sa sc := by
    have k := bcell (below_next hb1 B2)
    exact ⟨(k.1 _ _ hpb).trans HP.out.c0, (k.1 _ _ hpb).trans HP.out.c1, (k.1 _ _ hpb).trans HP.out.c2⟩
  have PR2 := h.below (below_next hb1 B2) (Nat.le_refl _)
  go_wp2_with fail
  refine (l04Own_c pb po p pa sa pc sc _ P2 PR2 m1 m2).mono ?_
  rintro e w3 ⟨ua, uc, va, vc, rfl, ho3, hb3⟩
  have HST : Hid (RnSt w (w3.alloc (.cells #[.slice ua p.pits.length uc, .slice va p.stores.length vc, .int .i64 p.player] 27)) r ms y 0 p ⟨ua, uc, va, vc⟩ ⟨ca, cc, ta, tc⟩ w1.heap.size 1 (w1.heap.size + 1) 0 w3.heap.size (w1.heap.size + 1 + 1) w3.heap.size w.heap.size w1.heap.size [] []) := by
    have FA := C1.rows R1.out (Nat.le_refl _)
    have FB := (FA.step (below_alloc1 _ (.cells #[.slice ca p.pits.length cc, .slice ta p.stores.length tc, .int .i64 p.player] 27))).rowB (RowB.lit w1 #[.slice ca p.pits.length cc, .slice ta p.stores.length tc, .int .i64 p.player] 27 3 1 (by decide) rfl rfl)
    have FC := (FB.step (below_alloc1 _ (.cells #[] 2))).rowB (RowB.lit _ #[] 2 1 0 (by decide) rfl (show w1.heap.size + 1 = _ by simp))
    have FD := FC.step hb3
    have RU := RowsP.own (A := ⟨ua, uc, va, vc⟩) (show POwn w3 (w1.heap.size + 1 + 1) _ _ _ _ _ by simpa using ho3)
    have FE := FD.rows RU (Nat.le_refl _)
    have FF := (FE.step (below_alloc1 _ (.cells #[.slice ua p.pits.length uc, .slice va p.stores.length vc, .int .i64 p.player] 27))).bx (Bx.alloc w3 #[.slice ua p.pits.length uc, .slice va p.stores.length vc, .int .i64 p.player] 27 rfl) (by simp)
    have z3 := hb3.size
    simp only [World.size_alloc] at z3
    refine ⟨Nat.zero_le _, by rw [HY.out]; rfl, FF.sub (fun r hr => ?_), ?_, rfl, m1, m2⟩
    · simp only [List.mem_cons, List.not_mem_nil, or_false] at hr
      rcases hr with rfl | rfl | rfl | rfl | rfl <;> (repeat (first | exact List.mem_cons_self | apply List.mem_cons_of_mem))
    · omega
  have BR : Hid (∀ W, Below w.heap.size w W → R.At W rb ro r ∧ Ints W ma ms) := fun W hW => by
    have k := bcell hW
    have c := HR.out
    exact ⟨⟨(k.1 _ _ hrb).trans c.c0, (k.1 _ _ hrb).trans c.c1, (k.1 _ _ hrb).trans c.c2, (k.1 _ _ hrb).trans c.c3, (k.1 _ _ hrb).trans c.c4, (k.1 _ _ hrb).trans c.c5, (k.1 _ _ hrb).trans c.c6, (k.1 _ _ hrb).trans c.c7, (k.1 _ _ hrb).trans c.c8⟩, hms.below hW (Nat.le_refl _)⟩
  clear ho3 hb3 C1 R1 B2 P2 PR2 hb1 HP HR HY h hms
  go_wp2_with fail
  go_loopw [8, 9, 11] (fun o gs i wr => ∃ (k : Nat) (q : P) (A C : A2) (og oc gg gc ql qh cl ch : Nat) (us vs : List Value), i = .int .i64 k ∧ o = .slice (some ⟨og, 0, none⟩) (k + 1) oc ∧ gs = .slice (some ⟨gg, 0, none⟩) k gc ∧ RnSt w wr r ms y k q A C og oc gg gc w3.heap.size ql qh cl ch us vs) (fun _ _ i _ => ms.length - (intOf i).toNat)
  case atStart => exact ⟨0, p, _, _, _, _, _, _, _, _, _, _, _, _, rfl, rfl, rfl, HST.out⟩
  case round =>
    clear HST z1
    obtain ⟨k, q, A, C, og, oc, gg, gc, ql, qh, cl, ch, us, vs, rfl, rfl, rfl, hst⟩ := hrel
    have HST := Lib.hid hst
    have hkl := hst.kl
    have hul := Lib.hid hst.ul
    obtain ⟨d1, d2, d3, d4, d5, d6, d7, d8, d9, d10, d11, d12⟩ := hst.dis
    have n1 := hst.m1
    have n2 := hst.m2
    have HF := Lib.hid hst.fr
    clear hst
    by_cases hk : k < ms.length
    case neg =>
      have HT : Hid (y = some q) := by
        have h1 := HST.out.go
        rw [List.drop_eq_nil_of_le (by omega)] at h1
        exact h1.symm
      have hkk : k = ms.length := by omega
      subst hkk
      go_wp2
      go_ret2
      refine ⟨_, _, _, _, _, _, rfl, ?_, by omega, ?_, HF.out.below⟩
      · rw [HT.out]; simp
      · intro q' hq'
        rw [HT.out] at hq'
        cases hq'
        have HO := HF.out.at 0 rfl
        have hcell : ∀ j v, (q.cells C.pa C.pc C.sa C.sc).toList[j]? = some v → wr.cell? ⟨og, ms.length * 3 + j, none⟩ = some v := fun j v hv => by
          have hb := own_row HO (ms.length * 3 + j) v (by rw [List.getElem?_append_right (by rw [hul.out]; omega), hul.out]; simpa using hv)
          obtain ⟨b', o', e', hc'⟩ := hb
          cases e'
          simpa using hc'
        exact ⟨C, og, rfl, by omega, by omega, ⟨hcell 0 _ rfl, hcell 1 _ rfl, hcell 2 _ rfl⟩, (HF.out.at 4 rfl).1, n1, n2⟩
    obtain ⟨mv, hmv⟩ : ∃ mv, mv = ms[k] := ⟨_, rfl⟩
    obtain ⟨mb, mo, hma, hmb, hmcs⟩ := Ints.open (BR.out wr HF.out.below).2 (by omega)
    have hcm2 : wr.cell? ⟨mb, mo + k, none⟩ = some (.int .i64 mv) := by rw [hmv]; exact hmcs k hk
    obtain ⟨z, hz⟩ : ∃ z, z = makeP r q mv := ⟨_, rfl⟩
    have HGO : Hid (y = if z.code = 0 then runGo r ⟨z.pits, z.stores, z.player⟩ (ms.drop (k + 1)) else none) := by
      have h1 := HST.out.go
      rw [List.drop_eq_getElem_cons hk, ← hmv] at h1
      rw [hz]
      exact h1.symm
    have HGN : Hid (z.code = 0 → 0 ≤ z.gain ∧ z.gain ≤ 2000 ∧ z.pits.length ≤ 16777216 ∧ z.stores.length ≤ 16777216) := fun hh => by rw [hz] at hh ⊢; exact makeP_gain hh
    have hbx := HF.out.at 2 rfl
    have HR := Lib.hid (l07Make_c rb ro w3.heap.size 0 r q mv A.pa A.sa A.pc A.sc wr (BR.out wr HF.out.below).1 ⟨hbx.box 0 _ rfl, hbx.box 1 _ rfl, hbx.box 2 _ rfl⟩ (HF.out.at 3 rfl).1 n1 n2)
    rw [← hz] at HR
    have hki : (k : Int) < (ms.length : Int) := by omega
    subst hma
    clear hmv hmcs hz hbx HST
    go_wp2_with fail
    refine HR.out.mono ?_
    rintro e w4 ⟨xa, xc, za, zc, rfl, ho4, hb4⟩
    have F4 := HF.out.step hb4
    have R4 := Lib.hid (RowsP.own (A := ⟨xa, xc, za, zc⟩) ho4)
    have z4 := hb4.size
    have e0 : ¬ og = w4.heap.size := by have := RowB.lt (F4.at 0 rfl); omega
    have e1 : ¬ gg = w4.heap.size := by have := RowB.lt (F4.at 1 rfl); omega
    have e2 : w3.heap.size < w4.heap.size := F4.le 2 rfl
    have e3 : og < wr.heap.size := HF.out.le 0 rfl
    have e4 : gg < wr.heap.size := HF.out.le 1 rfl
    have e5 : w3.heap.size < wr.heap.size := HF.out.le 2 rfl
    have e6 : qh ≤ wr.heap.size := HF.out.le 3 rfl
    have e7 : ch ≤ wr.heap.size := HF.out.le 4 rfl
    have F5 := F4.rows R4.out (Nat.le_refl _)
    have HF5 := Lib.hid F5
    have HB := Lib.hid (F4.at 2 rfl)
    clear ho4 hb4 HR F4 F5 HF hcm2
    by_cases hzc : z.code = 0
    case neg =>
      have hzc' : (z.code != 0) = true := by simpa using hzc
      have HT := Lib.hid (HGO.out.trans (if_neg hzc))
      clear hzc
      go_wp2
      go_ret2
      refine ⟨_, _, _, _, _, _, rfl, ?_, by omega, ?_, (HF5.out.step (below_alloc1 _ _)).below⟩
      · rw [HT.out]; simp; omega
      · intro q' hq'
        rw [HT.out] at hq'
        cases hq'
    have hzc' : (z.code != 0) = false := by simpa using hzc
    have HT := Lib.hid (HGO.out.trans (if_pos hzc))
    obtain ⟨g0, g1, g2, g3⟩ := HGN.out hzc
    clear hzc HGN HGO
    have s0 := HB.out.box 0 _ rfl
    have s1 := HB.out.box 1 _ rfl
    have s2 := HB.out.box 2 _ rfl
    have sf := HB.out.free
    have HD6 : Hid (Fr w ((((w4.setCell ⟨w3.heap.size, 0, none⟩ (.slice xa z.pits.length xc)).setCell ⟨w3.heap.size, 1, none⟩ (.slice za z.stores.length zc)).setCell ⟨w3.heap.size, 2, none⟩ (.int .i64 z.player)).alloc (.cells #[.int .i64 z.move, .int .i64 z.gain, .bool z.again, .slice xa z.pits.length xc, .slice za z.stores.length zc, .int .i64 z.player] 107)) [⟨w4.heap.size, w4.heap.size + 1, BoxP w4.heap.size (z.cells xa xc za zc).toList⟩, ⟨og, og + 1, RowB og 27 3 (k + 1) oc (us ++ (q.cells C.pa C.pc C.sa C.sc).toList)⟩, ⟨gg, gg + 1, RowB gg 2 1 k gc vs⟩, ⟨w3.heap.size, w3.heap.size + 1, Bx w3.heap.size [.slice xa z.pits.length xc, .slice za z.stores.length zc, .int .i64 z.player]⟩, ⟨wr.heap.size, w4.heap.size, RowsP wr.heap.size w4.heap.size ⟨z.pits, z.stores, z.player⟩ ⟨xa, xc, za, zc⟩⟩]) := by
      have F6 := HF5.out.sub (ms := [⟨og, og + 1, RowB og 27 3 (k + 1) oc (us ++ (q.cells C.pa C.pc C.sa C.sc).toList)⟩, ⟨gg, gg + 1, RowB gg 2 1 k gc vs⟩, ⟨w3.heap.size, w3.heap.size + 1, Bx w3.heap.size (q.cells A.pa A.pc A.sa A.sc).toList⟩, ⟨wr.heap.size, w4.heap.size, RowsP wr.heap.size w4.heap.size ⟨z.pits, z.stores, z.player⟩ ⟨xa, xc, za, zc⟩⟩]) (fun r hr => by
        simp only [List.mem_cons, List.not_mem_nil, or_false] at hr
        rcases hr with rfl | rfl | rfl | rfl <;> (repeat (first | exact List.mem_cons_self | apply List.mem_cons_of_mem)))
      have F7 := (F6.set3 (.slice xa z.pits.length xc) (.slice za z.stores.length zc) (.int .i64 z.player) rfl d3 (by simp; omega) (by simp; omega) (fun r hr => by
        simp only [List.mem_cons, List.not_mem_nil, or_false] at hr
        rcases hr with rfl
        simp; omega)).alloc (z.cells xa xc za zc) 107
      simp only [World.size_setCell] at F7
      exact F7
    clear HF5 HB
    go_upto_region 11 with fail
    clear s0 s1 s2 sf
    generalize ((((w4.setCell ⟨w3.heap.size, 0, none⟩ (.slice xa z.pits.length xc)).setCell ⟨w3.heap.size, 1, none⟩ (.slice za z.stores.length zc)).setCell ⟨w3.heap.size, 2, none⟩ (.int .i64 z.player)).alloc (.cells #[.int .i64 z.move, .int .i64 z.gain, .bool z.again, .slice xa z.pits.length xc, .slice za z.stores.length zc, .int .i64 z.player] 107)) = wx at *
    have hbx := HD6.out.at 3 rfl
    have HO := Lib.hid (l04Own_c w3.heap.size 0 ⟨z.pits, z.stores, z.player⟩ xa za xc zc wx ⟨hbx.box 0 _ rfl, hbx.box 1 _ rfl, hbx.box 2 _ rfl⟩ (HD6.out.at 4 rfl).1 g2 g3)
    clear hbx
    go_wp2_with fail
    refine HO.out.mono ?_
    rintro e w5 ⟨ya, yc, ba, bc, rfl, ho5, hb5⟩
    have R5 := Lib.hid (RowsP.own (A := ⟨ya, yc, ba, bc⟩) ho5)
    have HF7 := Lib.hid (((HD6.out.step hb5).rows R5.out (Nat.le_refl _)).alloc #[.slice ya z.pits.length yc, .slice ba z.stores.length bc, .int .i64 z.player] 27)
    have z5 : w4.heap.size < w5.heap.size := (HD6.out.step hb5).le 0 rfl
    have z5x : wx.heap.size ≤ w5.heap.size := hb5.size
    have e8 : w4.heap.size < wx.heap.size := HD6.out.le 0 rfl
    clear ho5 hb5 HO HD6
    obtain ⟨us2, hus2⟩ : ∃ u, u = us ++ (q.cells C.pa C.pc C.sa C.sc).toList := ⟨_, rfl⟩
    have hul2 : Hid (us2.length = (k + 1) * 3) := by unfold Hid; rw [hus2, List.length_append, hul.out]; simp [P.cells]; omega
    rw [← hus2] at HF7
    clear hus2
    go_wp2_with (at_builtin; refine wpList_append_lies _ rfl _ _ 128 rfl og 27 i3 _ 3 56 Try.underlying128 j3 z30 z31 z32 rfl (by decide) _ _ _ rfl (HF7.out.at 3 rfl) ⟨w5.heap.size, 0, none⟩ 1 1 [.slice ya z.pits.length yc, .slice ba z.stores.length bc, .int .i64 z.player] rfl rfl (by intro j u hu; match j, hu with | 0, hu | 1, hu | 2, hu => (simp at hu; subst hu; simp [Addr.add])) (by intro u hu; simp at hu; rcases hu with rfl | rfl | rfl <;> rfl) (by decide) (by unfold maxLen; omega) (by omega) (by simp; omega) _ rfl ?_)
    intro og' oc' w6 ho6 hg6 ha6 hl6
    have F8 := (HF7.out.sub (ms := [⟨og, og + 1, RowB og 27 3 (k + 1) oc us2⟩, ⟨gg, gg + 1, RowB gg 2 1 k gc vs⟩, ⟨w3.heap.size, w3.heap.size + 1, Bx w3.heap.size [.slice xa z.pits.length xc, .slice za z.stores.length zc, .int .i64 z.player]⟩, ⟨wr.heap.size, w4.heap.size, RowsP wr.heap.size w4.heap.size ⟨z.pits, z.stores, z.player⟩ ⟨xa, xc, za, zc⟩⟩, ⟨wx.heap.size, w5.heap.size, RowsP wx.heap.size w5.heap.size ⟨z.pits, z.stores, z.player⟩ ⟨ya, yc, ba, bc⟩⟩, ⟨w4.heap.size, w4.heap.size + 1, BoxP w4.heap.size (z.cells xa xc za zc).toList⟩]) (fun r hr => by
      simp only [List.mem_cons, List.not_mem_nil, or_false] at hr
      rcases hr with rfl | rfl | rfl | rfl | rfl | rfl <;> (repeat (first | exact List.mem_cons_self | apply List.mem_cons_of_mem)))).appB d1 (fun r hr => by
        simp only [List.mem_cons, List.not_mem_nil, or_false] at hr
        rcases hr with rfl | rfl | rfl | rfl | rfl <;> simp <;> omega) hg6 ho6
    have ea : og' = og ∨ og' = w5.heap.size + 1 := by
      rcases ha6 with h | h
      · exact .inl (by simpa [Value.ownBlock] using h.symm)
      · exact .inr (by simpa using h)
    have z6 : w5.heap.size + 1 ≤ w6.heap.size := by have := hg6.size; simpa using this
    have r1 : w6.cell? ⟨w4.heap.size, 1, none⟩ = some (.int .i64 z.gain) := F8.at 5 rfl 1 _ rfl
    have e9 : w4.heap.size < w6.heap.size := by omega
    have HF8 := Lib.hid F8
    have HF9 := Lib.hid ((F8.step (below_alloc1 w6 (.cells #[.int .i64 z.gain] 2))).sub (ms := [⟨gg, gg + 1, RowB gg 2 1 k gc vs⟩, ⟨og', og' + 1, RowB og' 27 3 (k + 1 + 1) oc' (us2 ++ [.slice ya z.pits.length yc, .slice ba z.stores.length bc, .int .i64 z.player])⟩, ⟨w3.heap.size, w3.heap.size + 1, Bx w3.heap.size [.slice xa z.pits.length xc, .slice za z.stores.length zc, .int .i64 z.player]⟩, ⟨wr.heap.size, w4.heap.size, RowsP wr.heap.size w4.heap.size ⟨z.pits, z.stores, z.player⟩ ⟨xa, xc, za, zc⟩⟩, ⟨wx.heap.size, w5.heap.size, RowsP wx.heap.size w5.heap.size ⟨z.pits, z.stores, z.player⟩ ⟨ya, yc, ba, bc⟩⟩]) (fun r hr => by
      simp only [List.mem_cons, List.not_mem_nil, or_false] at hr
      rcases hr with rfl | rfl | rfl | rfl | rfl <;> (repeat (first | exact List.mem_cons_self | apply List.mem_cons_of_mem))))
    clear F8 HF7 ho6 hg6 ha6
    go_wp2_with (at_builtin; refine wpList_append_lies _ rfl _ _ 25 rfl gg 2 i1 _ 1 8 Try.underlying25 j1 z10 z11 z12 rfl (by decide) _ _ _ rfl (HF9.out.at 0 rfl) ⟨w6.heap.size, 0, none⟩ 1 1 [.int .i64 z.gain] rfl rfl (by intro j u hu; match j, hu with | 0, hu => (simp at hu; subst hu; simp [Addr.add])) (by intro u hu; simp at hu; rcases hu with rfl; rfl) (by decide) (by unfold maxLen; omega) (by omega) (by simp; omega) _ rfl ?_)
    intro gg' gc' w7 ho7 hg7 ha7 hl7
    have F9 := HF9.out.appB d2 (fun r hr => by
        simp only [List.mem_cons, List.not_mem_nil, or_false] at hr
        rcases hr with rfl | rfl | rfl | rfl <;> simp <;> omega) hg7 ho7
    have eb : gg' = gg ∨ gg' = w6.heap.size + 1 := by
      rcases ha7 with h | h
      · exact .inl (by simpa [Value.ownBlock] using h.symm)
      · exact .inr (by simpa using h)
    have hHF := Lib.hid (F9.sub (ms := [⟨og', og' + 1, RowB og' 27 3 (k + 1 + 1) oc' (us2 ++ [.slice ya z.pits.length yc, .slice ba z.stores.length bc, .int .i64 z.player])⟩, ⟨gg', gg' + 1, RowB gg' 2 1 (k + 1) gc' (vs ++ [.int .i64 z.gain])⟩, ⟨w3.heap.size, w3.heap.size + 1, Bx w3.heap.size [.slice xa z.pits.length xc, .slice za z.stores.length zc, .int .i64 z.player]⟩, ⟨wr.heap.size, w4.heap.size, RowsP wr.heap.size w4.heap.size ⟨z.pits, z.stores, z.player⟩ ⟨xa, xc, za, zc⟩⟩, ⟨wx.heap.size, w5.heap.size, RowsP wx.heap.size w5.heap.size ⟨z.pits, z.stores, z.player⟩ ⟨ya, yc, ba, bc⟩⟩]) (fun r hr => by
      simp only [List.mem_cons, List.not_mem_nil, or_false] at hr
      rcases hr with rfl | rfl | rfl | rfl | rfl <;> (repeat (first | exact List.mem_cons_self | apply List.mem_cons_of_mem))))
    clear F9 HF8 HF9 ho7 hg7 ha7 r1
    go_wp2
    go_roundw
    case rel =>
      have hfin : RnSt w w7 r ms y (k + 1) ⟨z.pits, z.stores, z.player⟩ ⟨xa, xc, za, zc⟩ ⟨ya, yc, ba, bc⟩ og' oc' gg' gc' w3.heap.size wr.heap.size w4.heap.size wx.heap.size w5.heap.size us2 (vs ++ [.int .i64 z.gain]) :=
        { kl := by omega, go := HT.out.symm, fr := hHF.out, dis := by omega, ul := hul2.out, m1 := g2, m2 := g3 }
      exact ⟨k + 1, _, _, _, _, _, _, _, _, _, _, _, _, _, by go_num, rfl, rfl, hfin⟩
    case measure => (simp [intOf]; omega)


/-! ### FrG: frames whose items lie apart, in any order. Each fact holds under the premises that it states. -/
def Apt (a b : Res) : Prop := a.hi ≤ b.lo ∨ b.hi ≤ a.lo
/-- a frame whose items lie apart from one another, none of them below the call's own blocks -/
structure Frd (w0 w : World) (ls : List Res) : Prop where
  fr : Fr w0 w ls
  pw : ls.Pairwise Apt
theorem Frd.at {w0 w : World} {ls : List Res} (h : Frd w0 w ls) (i : Nat) {r : Res} (hr : ls[i]? = some r) : r.P w := h.fr.at i hr
theorem Frd.get {w0 w : World} {ls : List Res} (h : Frd w0 w ls) {r : Res} (hm : r ∈ ls) : r.P w := (h.fr.res r hm).2.2
theorem Frd.getLe {w0 w : World} {ls : List Res} (h : Frd w0 w ls) {r : Res} (hm : r ∈ ls) : r.hi ≤ w.heap.size := (h.fr.res r hm).1
theorem Frd.below {w0 w : World} {ls : List Res} (h : Frd w0 w ls) : Below w0.heap.size w0 w := h.fr.below
theorem Frd.step {w0 w w' : World} {ls : List Res} (h : Frd w0 w ls) (hb : Below w.heap.size w w') : Frd w0 w' ls := ⟨h.fr.step hb, h.pw⟩
theorem Frd.drew {w0 w : World} {ls : List Res} (h : Frd w0 w ls) : Frd w0 w.drew ls := h.step (Below.refl _ _).drew
theorem Frd.start (w : World) : Frd w w [] := ⟨Fr.start w, List.Pairwise.nil⟩
/-- what a step makes lies apart from all that was -/
theorem Frd.new {w0 w w' : World} {ls : List Res} (h : Frd w0 w ls) (hb : Below w.heap.size w w') {lo hi : Nat} {P : World → Prop} (hl : w.heap.size ≤ lo) (hf : Fr w0 w' (⟨lo, hi, P⟩ :: ls)) : Frd w0 w' (⟨lo, hi, P⟩ :: ls) :=
  ⟨hf, List.pairwise_cons.2 ⟨fun r hr => .inr (Nat.le_trans (h.fr.res r hr).1 hl), h.pw⟩⟩
theorem Frd.allocR {w0 w : World} {ls : List Res} (h : Frd w0 w ls) (xs : Array Value) (e : TypeId) (size n : Nat) (hm : n ≤ maxLen) (hx : xs.size = n * size) : Frd w0 (w.alloc (.cells xs e)) (⟨w.heap.size, w.heap.size + 1, RowB w.heap.size e size n n xs.toList⟩ :: ls) :=
  h.new (below_alloc1 _ _) (Nat.le_refl _) ((h.fr.step (below_alloc1 _ _)).rowB (RowB.lit w xs e size n hm hx rfl))
theorem Frd.allocX {w0 w : World} {ls : List Res} (h : Frd w0 w ls) (xs : Array Value) (e : TypeId) (hx : 0 < xs.toList.length) : Frd w0 (w.alloc (.cells xs e)) (⟨w.heap.size, w.heap.size + 1, Bx w.heap.size xs.toList⟩ :: ls) :=
  h.new (below_alloc1 _ _) (Nat.le_refl _) ((h.fr.step (below_alloc1 _ _)).bx (Bx.alloc w xs e rfl) hx)
theorem Frd.rows {w0 w w' : World} {ls : List Res} (h : Frd w0 w ls) (hb : Below w.heap.size w w') {q : P} {A : A2} (ho : POwn w' w.heap.size q A.pa A.pc A.sa A.sc) : Frd w0 w' (⟨w.heap.size, w'.heap.size, RowsP w.heap.size w'.heap.size q A⟩ :: ls) :=
  h.new hb (Nat.le_refl _) ((h.fr.step hb).rows (RowsP.own ho) (Nat.le_refl _))
theorem pw_erase {α : Type} {R : α → α → Prop} (hs : ∀ a b, R a b → R b a) : ∀ {ls : List α} (i : Nat) {x : α}, ls.Pairwise R → ls[i]? = some x → ∀ r ∈ ls.eraseIdx i, R x r
  | [], i, x, h, hi, r, hr => by simp at hi
  | y :: ls, 0, x, h, hi, r, hr => by
    simp at hi
    subst hi
    exact (List.pairwise_cons.1 h).1 r (by simpa using hr)
  | y :: ls, i + 1, x, h, hi, r, hr => by
    have hi' : ls[i]? = some x := by simpa using hi
    rcases List.mem_cons.1 (by simpa using hr : r ∈ y :: ls.eraseIdx i) with rfl | hr
    · exact hs _ _ ((List.pairwise_cons.1 h).1 x (List.mem_of_getElem? hi'))
    · exact pw_erase hs i (List.pairwise_cons.1 h).2 hi' r hr
theorem Apt.symm {a b : Res} (h : Apt a b) : Apt b a := Or.symm h
theorem pw_eraseIdx {α : Type} {R : α → α → Prop} {ls : List α} (i : Nat) (h : ls.Pairwise R) : (ls.eraseIdx i).Pairwise R := h.sublist (List.eraseIdx_sublist ls i)
/-- item i, a box, is stored anew -/
theorem Frd.setI {w0 w : World} {ls : List Res} (h : Frd w0 w ls) (i : Nat) {B : Nat} {cs : List Value} (hi : ls[i]? = some ⟨B, B + 1, Bx B cs⟩) (vs : List Value) (hl : vs.length = cs.length) (h0 : 0 < vs.length) (hw : w0.heap.size ≤ B) :
    Frd w0 (w.setCells B 0 vs) (⟨B, B + 1, Bx B vs⟩ :: ls.eraseIdx i) := by
  have hd := pw_erase (fun a b => Apt.symm) i h.pw hi
  exact ⟨(h.fr.chgAt i (chg_sets B vs 0 w) hw (fun r hr => (hd r hr).symm)).bx ((h.at i hi).sets_all hl) h0, List.pairwise_cons.2 ⟨hd, pw_eraseIdx i h.pw⟩⟩
/-- an append to item i -/
theorem Frd.appI {w0 w w' : World} {ls : List Res} (h : Frd w0 w ls) (i : Nat) {g g' : Nat} {e : TypeId} {size n c n' c' : Nat} {vs vs' : List Value} (hi : ls[i]? = some ⟨g, g + 1, RowB g e size n c vs⟩) (hw : w0.heap.size ≤ g)
    (hg : w.grownBy w' (some g)) (ho : w'.ownsRow g e size (.slice (some ⟨g', 0, none⟩) n' c') n' vs') (ha : g' = g ∨ w.heap.size ≤ g') : Frd w0 w' (⟨g', g' + 1, RowB g' e size n' c' vs'⟩ :: ls.eraseIdx i) := by
  have hd := pw_erase (fun a b => Apt.symm) i h.pw hi
  refine ⟨(h.fr.chgAt i (Chg.ofGrown (v := .slice (some ⟨g, 0, none⟩) n c) hg (fun k hk => by cases hk; exact ⟨Nat.le_refl _, Nat.lt_succ_self _⟩)) hw (fun r hr => (hd r hr).symm)).rowB (RowB.up ho), List.pairwise_cons.2 ⟨fun r hr => ?_, pw_eraseIdx i h.pw⟩⟩
  rcases ha with rfl | ha
  · exact hd r hr
  · exact .inr (Nat.le_trans (h.fr.res r (List.mem_of_mem_eraseIdx hr)).1 ha)
/-- items i, of which each stands once -/
theorem Frd.pick {w0 w : World} {ls : List Res} (h : Frd w0 w ls) (is : List Nat) (hn : is.Nodup) {ms : List Res} (hm : is.map (ls[·]?) = ms.map some) : Frd w0 w ms := by
  have hmem : ∀ r ∈ ms, ∃ i ∈ is, ls[i]? = some r := fun r hr => by
    have : some r ∈ ms.map some := List.mem_map_of_mem hr
    rw [← hm] at this
    obtain ⟨i, h1, h2⟩ := List.mem_map.1 this
    exact ⟨i, h1, h2⟩
  refine ⟨h.fr.sub (fun r hr => by obtain ⟨i, _, h2⟩ := hmem r hr; exact List.mem_of_getElem? h2), ?_⟩
  have hp : (is.map (ls[·]?)).Pairwise (fun a b => ∀ x y, a = some x → b = some y → Apt x y) := by
    refine List.pairwise_map.2 (hn.imp (R := (· ≠ ·)) ?_)
    intro i j hij x y hx hy
    have hpw := h.pw
    rw [List.pairwise_iff_getElem] at hpw
    obtain ⟨hi, rfl⟩ := List.getElem?_eq_some_iff.1 hx
    obtain ⟨hj, rfl⟩ := List.getElem?_eq_some_iff.1 hy
    rcases Nat.lt_or_gt_of_ne hij with hlt | hlt
    · exact hpw i j hi hj hlt
    · exact (hpw j i hj hi hlt).symm
  rw [hm] at hp
  exact (List.pairwise_map.1 hp).imp (fun h => h _ _ rfl rfl)

theorem forall_mem_nil {α : Type} {p : α → Prop} : ∀ r ∈ ([] : List α), p r := by simp
section
variable {P : Program} {op : Oper} {a : Act} {w0 w : World} {K : Act → World → Prop} {Q : Exit → Act → World → Prop} {ls : List Res}
theorem wp_store_frd (h : Frd w0 w ls) (i : Nat) (ty : TypeId) (x y : Operand) (ho : op.op = .store ty x y) {B : Nat} {cs : List Value} (cells : Array Value) (hi : ls[i]? = some ⟨B, B + 1, Bx B cs⟩) (hx : a.eval x = .pointer (some ⟨B, 0, none⟩)) (hy : a.eval y = .agg cells)
    (hl : cells.toList.length = cs.length) (h0 : 0 < cells.toList.length) (hw : w0.heap.size ≤ B) (hin : (P.info? ty).map (·.size) = some cells.size) (h1 : cells.all (·.oneCell') = true)
    (hK : ∀ w', w.heap.size ≤ w'.heap.size → Frd w0 w' (⟨B, B + 1, Bx B cells.toList⟩ :: ls.eraseIdx i) → K (a.put op.dst undef) w') : op.wp P a w K Q :=
  wp_store_mid ty x y ho B 0 cells hx hy (by have := (h.at i hi).there; rw [← hl] at this; simpa using this) hin h1 (hK _ (Nat.le_of_eq (size_sets _ _ _ _).symm) (h.setI i hi cells.toList hl h0 hw))
theorem gen_allocR {p : World → Prop} (h : Frd w0 w ls) (xs : Array Value) (e : TypeId) (size n : Nat) (hm : n ≤ maxLen) (hx : xs.size = n * size)
    (hK : ∀ w', w.heap.size + 1 ≤ w'.heap.size → Frd w0 w' (⟨w.heap.size, w.heap.size + 1, RowB w.heap.size e size n n xs.toList⟩ :: ls) → p w') : p (w.alloc (.cells xs e)) := hK _ (Nat.le_of_eq (World.size_alloc _ _).symm) (h.allocR xs e size n hm hx)
theorem gen_allocX {p : World → Prop} (h : Frd w0 w ls) (xs : Array Value) (e : TypeId) (hx : 0 < xs.toList.length)
    (hK : ∀ w', w.heap.size + 1 ≤ w'.heap.size → Frd w0 w' (⟨w.heap.size, w.heap.size + 1, Bx w.heap.size xs.toList⟩ :: ls) → p w') : p (w.alloc (.cells xs e)) := hK _ (Nat.le_of_eq (World.size_alloc _ _).symm) (h.allocX xs e hx)
end
theorem idx0 {α : Type} {a : α} {l : List α} : (a :: l)[0]? = some a := rfl
theorem idx1 {α : Type} {a b : α} {l : List α} : (b :: a :: l)[1]? = some a := rfl
theorem idx2 {α : Type} {a b c : α} {l : List α} : (b :: c :: a :: l)[2]? = some a := rfl
theorem idx3 {α : Type} {a b c d : α} {l : List α} : (b :: c :: d :: a :: l)[3]? = some a := rfl
theorem idx4 {α : Type} {a b c d e : α} {l : List α} : (b :: c :: d :: e :: a :: l)[4]? = some a := rfl
theorem idx5 {α : Type} {a b c d e f : α} {l : List α} : (b :: c :: d :: e :: f :: a :: l)[5]? = some a := rfl
theorem idx6 {α : Type} {a b c d e f g : α} {l : List α} : (b :: c :: d :: e :: f :: g :: a :: l)[6]? = some a := rfl
theorem idx7 {α : Type} {a b c d e f g h : α} {l : List α} : (b :: c :: d :: e :: f :: g :: h :: a :: l)[7]? = some a := rfl
theorem idx8 {α : Type} {a b c d e f g h i : α} {l : List α} : (b :: c :: d :: e :: f :: g :: h :: i :: a :: l)[8]? = some a := rfl
theorem rowB_lies {w : World} {g : Nat} {e : TypeId} {size n c : Nat} {vs : List Value} (h : RowB g e size n c vs w) : ∀ (j : Nat) (u : Value), vs[j]? = some u → w.cell? ((⟨g, 0, none⟩ : Addr).add j) = some u := fun j u hu => by
  obtain ⟨b', o', e', hc⟩ := own_row h j u hu
  cases e'
  by_cases h0 : j = 0
  · subst h0; simpa [Addr.add] using hc
  · simpa [Addr.add, h0] using hc
section
variable {P : Program} {op : Oper} {a : Act} {w0 w : World} {K : Act → World → Prop} {Q : Exit → Act → World → Prop} {ls : List Res}
theorem wp_append_frd (h : Frd w0 w ls) (s x : Operand) (t : TypeId) (ho : op.op = .call { callee := .builtin .append, args := #[s, x], argTypes := #[t, t] })
    (e : TypeId) (i : TypeInfo) (z : Value) (size bytes : Nat) (ht : P.underlying t = some (.slice e)) (hi : P.info? e = some i) (hz : i.zero = some z) (hsize : i.size = size) (hby : i.bytes = bytes) (hzs : z.cells.size = size) (hsz : 0 < size)
    {g b n c : Nat} {vs us : List Value} (hs : a.eval s = .slice (some ⟨g, 0, none⟩) n c) (hx : a.eval x = .slice (some ⟨b, 0, none⟩) 1 1) {ii jj : Nat} (hii : ls[ii]? = some ⟨g, g + 1, RowB g e size n c vs⟩) (hjj : ls[jj]? = some ⟨b, b + 1, RowB b e size 1 1 us⟩)
    (h1 : ∀ u ∈ us, u.oneCell' = true) (h63 : n + 1 ≤ maxLen) (hbytes : (n + 1) * bytes ≤ 140737488355328) (hw : w0.heap.size ≤ g)
    (hK : ∀ g' c' w', w.heap.size ≤ w'.heap.size → g ≤ g' ∨ w.heap.size ≤ g' → Frd w0 w' (⟨g', g' + 1, RowB g' e size (n + 1) c' (vs ++ us)⟩ :: ls.eraseIdx ii) → K (a.put op.dst (.slice (some ⟨g', 0, none⟩) (n + 1) c')) w') : op.wp P a w K Q := by
  have hr := h.at ii hii
  have hl := h.at jj hjj
  refine wp_append_lies w s x t ho g e i z size bytes ht hi hz hsize hby hzs hsz _ n vs hs hr ⟨b, 0, none⟩ 1 1 us hx hl.1 (rowB_lies hl) h1 (by decide) h63 hbytes (Nat.le_of_lt (RowB.lt hr)) _ rfl ?_
  intro g' c' w' ho' hg' ha' hl'
  have ha2 : g' = g ∨ w.heap.size ≤ g' := by
    rcases ha' with h | h
    · exact .inl (by simpa [Value.ownBlock] using h.symm)
    · exact .inr (Nat.le_of_eq h.symm)
  exact hK g' c' w' hg'.size (ha2.imp (fun h => Nat.le_of_eq h.symm) id) (h.appI ii hii hw hg' ho' ha2)
end

end Go.Proofs.Yteabheocbkcmnaa
