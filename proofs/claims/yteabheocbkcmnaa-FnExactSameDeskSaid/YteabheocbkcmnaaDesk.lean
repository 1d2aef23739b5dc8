/- Desk: the state of the console: the law's argument, opened, and the contracts of the functions that copy and compare it. Each holds for every argument, under the premises that it states. -/
import Derived.Test.YteabheocbkcmnaaTable
import Derived.Test.YteabheocbkcmnaaPosS
import Derived.Test.YteabheocbkcmnaaPos2
import Derived.Test.YteabheocbkcmnaaSets
import Derived.Deep.CutRange
namespace Go.Proofs.Yteabheocbkcmnaa
set_option linter.unusedSimpArgs false
set_option linter.unusedVariables false
set_option linter.unnecessarySimpa false
open Go.RowKit Go.ChangeShapes Go.WideShapes Go.ChangeAt Go.Joins

structure Dk where
  rules : R
  pos : P
  table : Tb
  deriving DecidableEq
/-- where a desk's slices lie -/
structure DA where
  pa : Option Addr
  pc : Nat
  sa : Option Addr
  sc : Nat
  t : TA
@[go_sem] def Dk.cells (x : Dk) (k : DA) : Array Value := #[.int .i64 x.rules.pits, .int .i64 x.rules.seeds, .bool x.rules.stores, .bool x.rules.skip, .bool x.rules.relay, .bool x.rules.feed, .bool x.rules.again, .int .i64 x.rules.capture, .int .i64 x.rules.slam, .slice k.pa x.pos.pits.length k.pc, .slice k.sa x.pos.stores.length k.sc, .int .i64 x.pos.player, .int .i64 x.table.rules.pits, .int .i64 x.table.rules.seeds, .bool x.table.rules.stores, .bool x.table.rules.skip, .bool x.table.rules.relay, .bool x.table.rules.feed, .bool x.table.rules.again, .int .i64 x.table.rules.capture, .int .i64 x.table.rules.slam, .int .i64 x.table.most, .slice k.t.va x.table.values.length k.t.vc, .slice k.t.ra x.table.ranks.length k.t.rc]
@[go_sem] def Dk.val (x : Dk) (k : DA) : Value := .agg (x.cells k)
structure DRow (w : World) (x : Dk) (k : DA) : Prop where
  pos : PRow w x.pos k.pa k.sa
  table : TRow w x.table k.t
theorem DRow.below {B : Nat} {w w' : World} {x : Dk} {k : DA} (h : DRow w x k) (hb : Below B w w') (hB : w.heap.size ≤ B) : DRow w' x k := ⟨h.pos.below hb hB, h.table.below hb hB⟩
theorem DRow.drew {w : World} {x : Dk} {k : DA} (h : DRow w x k) : DRow w.drew x k := ⟨⟨h.pos.pits, h.pos.stores⟩, ⟨h.table.values, h.table.ranks⟩⟩
structure DOwn (w : World) (base : Nat) (x : Dk) (k : DA) : Prop where
  pos : POwn w base x.pos k.pa k.pc k.sa k.sc
  table : TOwn w base x.table k.t
theorem DOwn.row {w : World} {base : Nat} {x : Dk} {k : DA} (h : DOwn w base x k) : DRow w x k := ⟨h.pos.row, h.table.row⟩
theorem DOwn.below {w w' : World} {B base : Nat} {x : Dk} {k : DA} (h : DOwn w base x k) (hb : Below B w w') (hB : w.heap.size ≤ B) : DOwn w' base x k := ⟨h.pos.below hb hB, h.table.below hb hB⟩
theorem POwn.set {w : World} {base : Nat} {p : P} {pa sa : Option Addr} {pc sc : Nat} (h : POwn w base p pa pc sa sc) {q : Addr} (hp : q.block < base) (u : Value) : POwn (w.setCell q u) base p pa pc sa sc := ⟨ownsRow_setCell_below h.pits hp u, ownsRow_setCell_below h.stores hp u, h.apart⟩
theorem POwn.sets {base nb : Nat} {p : P} {pa sa : Option Addr} {pc sc : Nat} (hn : nb < base) : ∀ (vs : List Value) (o : Nat) {w : World}, POwn w base p pa pc sa sc → POwn (w.setCells nb o vs) base p pa pc sa sc
  | [], o, w, h => h
  | v :: vs, o, w, h => POwn.sets hn vs (o + 1) (h.set (q := ⟨nb, o, none⟩) hn v)
theorem TOwn.sets {base nb : Nat} {t : Tb} {k : TA} (hn : nb < base) : ∀ (vs : List Value) (o : Nat) {w : World}, TOwn w base t k → TOwn (w.setCells nb o vs) base t k
  | [], o, w, h => h
  | v :: vs, o, w, h => TOwn.sets hn vs (o + 1) (h.set (p := ⟨nb, o, none⟩) hn v)
theorem POwn.le {w : World} {base base' : Nat} {p : P} {pa sa : Option Addr} {pc sc : Nat} (h : POwn w base p pa pc sa sc) (hb : base' ≤ base) : POwn w base' p pa pc sa sc := ⟨ownsRow_le h.pits hb, ownsRow_le h.stores hb, h.apart⟩
/-- the lengths of a desk's slices -/
structure Dk.Len (x : Dk) (n : Nat) : Prop where
  p : x.pos.pits.length ≤ n
  s : x.pos.stores.length ≤ n
  v : x.table.values.length ≤ n
  r : x.table.ranks.length ≤ n

def szD (left : Int) (x : Dk) : Int := if szP left x.pos < 0 then -1 else szT (szP left x.pos) x.table
theorem szP_neg {left : Int} {p : P} (h : szP left p < 0) (h0 : 0 ≤ left) : szP left p = -1 := by
  unfold szP at h ⊢
  split
  · rfl
  · rename_i h'; rw [if_neg h'] at h; exact szI_neg h (by omega)
theorem szT_neg {left : Int} {t : Tb} (h : szT left t < 0) (h0 : 0 ≤ left) : szT left t = -1 := by
  unfold szT at h ⊢
  split
  · rfl
  · rename_i h'; rw [if_neg h'] at h; exact szI_neg h (by omega)
theorem szP_len2 {left : Int} {p : P} (h : ¬ szP left p < 0) (h0 : 0 ≤ left) (h1 : left ≤ 1048576) : p.pits.length ≤ 1048576 ∧ p.stores.length ≤ 1048576 ∧ 0 ≤ szP left p ∧ szP left p ≤ 1048576 := by
  unfold szP at h ⊢
  split at h
  · omega
  · rename_i h'
    rw [if_neg h']
    unfold szI at h h' ⊢
    split at h'
    · omega
    · rename_i h2
      rw [if_neg h2] at h ⊢
      split at h
      · omega
      · rename_i h3
        rw [if_neg h3]
        omega
theorem szD_len {left : Int} {x : Dk} (h : ¬ szD left x < 0) (h0 : 0 ≤ left) (h1 : left ≤ 1048576) : x.Len 1048576 ∧ 0 ≤ szD left x ∧ szD left x ≤ 1048576 := by
  unfold szD at h ⊢
  split at h
  · omega
  · rename_i h'
    rw [if_neg h']
    obtain ⟨a, b, c, d⟩ := szP_len2 h' h0 h1
    obtain ⟨e, f, g, i⟩ := szT_len h c d
    exact ⟨⟨a, b, e, f⟩, g, i⟩
set_option maxHeartbeats 2000000 in
theorem szDesk_c (x : Dk) (k : DA) (left : Int) (w : World) (hl : 0 ≤ left) (hl' : left ≤ 1048576) (hm : x.Len maxLen) :
    Calls Try.prog 49 #[x.val k, .int .i64 left] w fun e w' => e = .returned (.int .i64 (szD left x)) ∧ Below w.heap.size w w' := by
  have F0 := (Fr.start w).alloc (x.cells k) 81
  go_enter Try.func49, Try.ntmps49
  go_wp2_with fail
  refine (szPosition_c x.pos k.pa k.sa k.pc k.sc _ _ hl hl' hm.p hm.s).mono ?_
  rintro e w1 ⟨rfl, hb1⟩
  have F1 := F0.step hb1
  by_cases h : szP left x.pos < 0
  · have HS : Hid (szP left x.pos = szD left x) := by unfold Hid; rw [szD, if_pos h]; exact szP_neg h hl
    have B1 := F1.below
    clear F0 F1 hb1
    go_wp2
    go_ret
    exact ⟨by rw [← HS.out, szP_neg h hl]; rfl, B1⟩
  · have HS : Hid (szD left x = szT (szP left x.pos) x.table) := by unfold Hid; rw [szD, if_neg h]
    obtain ⟨_, _, h2, h3⟩ := szP_len2 h hl hl'
    have BX := F1.at 0 rfl
    have q12 := BX 12 _ rfl
    have q13 := BX 13 _ rfl
    have q14 := BX 14 _ rfl
    have q15 := BX 15 _ rfl
    have q16 := BX 16 _ rfl
    have q17 := BX 17 _ rfl
    have q18 := BX 18 _ rfl
    have q19 := BX 19 _ rfl
    have q20 := BX 20 _ rfl
    have q21 := BX 21 _ rfl
    have q22 := BX 22 _ rfl
    have q23 := BX 23 _ rfl
    have B1 := F1.below
    clear BX F0 hb1
    go_wp2_with fail
    refine (szTable_c x.table k.t _ _ h2 h3 hm.v hm.r).mono ?_
    rintro e w2 ⟨rfl, hb2⟩
    have B2 := (F1.step hb2).below
    clear hb2 F1 B1
    by_cases h4 : szT (szP left x.pos) x.table < 0
    · have H5 := Lib.hid (szT_neg h4 h2)
      go_wp2
      go_ret
      exact ⟨by rw [HS.out, H5.out]; rfl, B2⟩
    · go_wp2
      go_ret
      exact ⟨by rw [HS.out]; rfl, B2⟩

set_option maxHeartbeats 4000000 in
theorem eqDesk_c (x y : Dk) (k l : DA) (w : World) (hx : DRow w x k) (hy : DRow w y l) (m1 : x.Len maxLen) (m2 : y.Len maxLen) :
    Calls Try.prog 53 #[x.val k, y.val l] w fun e w' => e = .returned (.bool (decide (x = y))) ∧ Below w.heap.size w w' := by
  obtain ⟨xr, xp, xt⟩ := x
  obtain ⟨yr, yp, yt⟩ := y
  have F0 := ((Fr.start w).alloc (Dk.cells ⟨xr, xp, xt⟩ k) 87).alloc (Dk.cells ⟨yr, yp, yt⟩ l) 87
  go_enter Try.func53, Try.ntmps53
  go_wp2_with fail
  refine (eqRules_c xr yr _).mono ?_
  rintro e w1 ⟨rfl, hb1⟩
  have F1 := F0.step hb1
  have B1 := F1.below
  clear F0 hb1
  by_cases hr : xr = yr
  · subst hr
    have BX := F1.at 1 rfl
    have BY := F1.at 0 rfl
    simp only [World.size_alloc] at BY
    have p9 := BX 9 _ rfl
    have p10 := BX 10 _ rfl
    have p11 := BX 11 _ rfl
    have q9 := BY 9 _ rfl
    have q10 := BY 10 _ rfl
    have q11 := BY 11 _ rfl
    clear BX BY
    go_wp2_with fail
    refine (eqPosition_c xp yp k.pa k.sa l.pa l.sa k.pc k.sc l.pc l.sc _ (hx.pos.below B1 (Nat.le_refl _)) (hy.pos.below B1 (Nat.le_refl _)) m1.p m1.s m2.p m2.s).mono ?_
    rintro e w2 ⟨rfl, hb2⟩
    have F2 := F1.step hb2
    have B2 := F2.below
    clear F1 hb2 p9 p10 p11 q9 q10 q11 B1
    by_cases hp : xp = yp
    · subst hp
      have BX := F2.at 1 rfl
      have BY := F2.at 0 rfl
      simp only [World.size_alloc] at BY
      have p12 := BX 12 _ rfl
      have q12 := BY 12 _ rfl
      have p13 := BX 13 _ rfl
      have q13 := BY 13 _ rfl
      have p14 := BX 14 _ rfl
      have q14 := BY 14 _ rfl
      have p15 := BX 15 _ rfl
      have q15 := BY 15 _ rfl
      have p16 := BX 16 _ rfl
      have q16 := BY 16 _ rfl
      have p17 := BX 17 _ rfl
      have q17 := BY 17 _ rfl
      have p18 := BX 18 _ rfl
      have q18 := BY 18 _ rfl
      have p19 := BX 19 _ rfl
      have q19 := BY 19 _ rfl
      have p20 := BX 20 _ rfl
      have q20 := BY 20 _ rfl
      have p21 := BX 21 _ rfl
      have q21 := BY 21 _ rfl
      have p22 := BX 22 _ rfl
      have q22 := BY 22 _ rfl
      have p23 := BX 23 _ rfl
      have q23 := BY 23 _ rfl
      clear BX BY
      go_wp2_with fail
      refine (eqTable_c xt yt k.t l.t _ (hx.table.below B2 (Nat.le_refl _)) (hy.table.below B2 (Nat.le_refl _)) m1.v m1.r m2.v m2.r).mono ?_
      rintro e w3 ⟨rfl, hb3⟩
      have B3 := (F2.step hb3).below
      clear F2 hb3 B2
      by_cases ht : xt = yt
      · subst ht
        go_wp2
        go_ret
        exact ⟨by simp, B3⟩
      · have hd : decide (xt = yt) = false := decide_eq_false ht
        have HT := Lib.hid ht
        clear ht
        go_wp2
        go_ret
        exact ⟨by simp [HT.out], B3⟩
    · have hd : decide (xp = yp) = false := decide_eq_false hp
      have HT := Lib.hid hp
      clear hp
      go_wp2
      go_ret
      exact ⟨by simp [HT.out], B2⟩
  · have hd : decide (xr = yr) = false := decide_eq_false hr
    have HT := Lib.hid hr
    clear hr
    go_wp2
    go_ret
    exact ⟨by simp [HT.out], B1⟩

set_option maxHeartbeats 4000000 in
theorem iSameDesk_c (x y : Dk) (k l : DA) (w : World) (hx : DRow w x k) (hy : DRow w y l) (m1 : x.Len maxLen) (m2 : y.Len maxLen) :
    Calls Try.prog 52 #[x.val k, y.val l] w fun e w' => e = .returned (.bool (decide (x = y))) ∧ Below w.heap.size w w' := by
  obtain ⟨xr, xp, xt⟩ := x
  obtain ⟨yr, yp, yt⟩ := y
  have F1 := ((Fr.start w).alloc (Dk.cells ⟨xr, xp, xt⟩ k) 87).alloc (Dk.cells ⟨yr, yp, yt⟩ l) 87
  have B1 := F1.below
  by_cases hr : xr = yr
  · subst hr
    have hq := rEq_self xr
    go_enter Try.func52, Try.ntmps52
    go_wp2_with fail
    refine (SamePosition_c xp yp k.pa k.sa l.pa l.sa k.pc k.sc l.pc l.sc _ (hx.pos.below B1 (Nat.le_refl _)) (hy.pos.below B1 (Nat.le_refl _)) m1.p m1.s m2.p m2.s).mono ?_
    rintro e w2 ⟨rfl, hb2⟩
    have F2 := F1.step hb2
    have B2 := F2.below
    clear F1 hb2 B1
    by_cases hp : xp = yp
    · subst hp
      have BX := F2.at 1 rfl
      have BY := F2.at 0 rfl
      simp only [World.size_alloc] at BY
      have p12 := BX 12 _ rfl
      have q12 := BY 12 _ rfl
      have p13 := BX 13 _ rfl
      have q13 := BY 13 _ rfl
      have p14 := BX 14 _ rfl
      have q14 := BY 14 _ rfl
      have p15 := BX 15 _ rfl
      have q15 := BY 15 _ rfl
      have p16 := BX 16 _ rfl
      have q16 := BY 16 _ rfl
      have p17 := BX 17 _ rfl
      have q17 := BY 17 _ rfl
      have p18 := BX 18 _ rfl
      have q18 := BY 18 _ rfl
      have p19 := BX 19 _ rfl
      have q19 := BY 19 _ rfl
      have p20 := BX 20 _ rfl
      have q20 := BY 20 _ rfl
      have p21 := BX 21 _ rfl
      have q21 := BY 21 _ rfl
      have p22 := BX 22 _ rfl
      have q22 := BY 22 _ rfl
      have p23 := BX 23 _ rfl
      have q23 := BY 23 _ rfl
      clear BX BY
      go_wp2_with fail
      refine (SameTable_c xt yt k.t l.t _ (hx.table.below B2 (Nat.le_refl _)) (hy.table.below B2 (Nat.le_refl _)) m1.v m1.r m2.v m2.r).mono ?_
      rintro e w3 ⟨rfl, hb3⟩
      have B3 := (F2.step hb3).below
      clear F2 hb3 B2
      go_wp2
      go_ret
      exact ⟨by simp, B3⟩
    · have hd : decide (xp = yp) = false := decide_eq_false hp
      have HT := Lib.hid hp
      clear hp
      go_wp2
      go_ret
      exact ⟨by simp [HT.out], B2⟩
  · have hq := rEq_ne hr
    have HT := Lib.hid hr
    clear hr F1
    go_enter Try.func52, Try.ntmps52
    go_wp2
    go_ret
    exact ⟨by simp [HT.out], B1⟩

set_option maxRecDepth 100000 in
set_option maxHeartbeats 4000000 in
theorem sSameDesk_c (x y : Dk) (k l : DA) (w : World) (hx : DRow w x k) (hy : DRow w y l) (m1 : x.Len maxLen) (m2 : y.Len maxLen) :
    Calls Try.prog 50 #[x.val k, y.val l] w fun e w' => e = .returned (.bool (decide (x = y))) ∧ Below w.heap.size w w' := by
  obtain ⟨xr, xp, xt⟩ := x
  obtain ⟨yr, yp, yt⟩ := y
  have F1 := ((Fr.start w).alloc (Dk.cells ⟨xr, xp, xt⟩ k) 87).alloc (Dk.cells ⟨yr, yp, yt⟩ l) 87
  simp only [World.size_alloc] at F1
  have B1 := F1.below
  by_cases hr : xr = yr
  · subst hr
    have hq := rEq_self xr
    have AX : P.At _ w.heap.size 9 xp k.pa k.pc k.sa k.sc := ⟨F1.at 1 rfl 9 _ rfl, F1.at 1 rfl 10 _ rfl, F1.at 1 rfl 11 _ rfl⟩
    have AY : P.At _ (w.heap.size + 1) 9 yp l.pa l.pc l.sa l.sc := ⟨F1.at 0 rfl 9 _ rfl, F1.at 0 rfl 10 _ rfl, F1.at 0 rfl 11 _ rfl⟩
    have HP := Lib.hid (l04Same_c _ _ _ _ xp yp k.pa k.sa l.pa l.sa k.pc k.sc l.pc l.sc _ AX AY (hx.pos.below B1 (Nat.le_refl _)) (hy.pos.below B1 (Nat.le_refl _)) m1.p m1.s m2.p m2.s)
    clear AX AY
    go_enter Try.func50, Try.ntmps50
    go_wp2_with fail
    refine HP.out.mono ?_
    rintro e w2 ⟨rfl, n2, hw2⟩
    have F2 := F1.step (show Below _ _ w2 from hw2 ▸ below_draws _ _ n2)
    have B2 := F2.below
    clear F1 B1 hw2 HP
    by_cases hp : xp = yp
    · subst hp
      have BX := F2.at 1 rfl
      have BY := F2.at 0 rfl
      have AX : ∀ j, j < 12 → w2.cell? ⟨w.heap.size, 12 + j, none⟩ = (xt.cells k.t)[j]? := by
        intro j hj
        match j, hj with
        | 0, _ => exact BX 12 _ rfl
        | 1, _ => exact BX 13 _ rfl
        | 2, _ => exact BX 14 _ rfl
        | 3, _ => exact BX 15 _ rfl
        | 4, _ => exact BX 16 _ rfl
        | 5, _ => exact BX 17 _ rfl
        | 6, _ => exact BX 18 _ rfl
        | 7, _ => exact BX 19 _ rfl
        | 8, _ => exact BX 20 _ rfl
        | 9, _ => exact BX 21 _ rfl
        | 10, _ => exact BX 22 _ rfl
        | 11, _ => exact BX 23 _ rfl
      have AY : ∀ j, j < 12 → w2.cell? ⟨w.heap.size + 1, 12 + j, none⟩ = (yt.cells l.t)[j]? := by
        intro j hj
        match j, hj with
        | 0, _ => exact BY 12 _ rfl
        | 1, _ => exact BY 13 _ rfl
        | 2, _ => exact BY 14 _ rfl
        | 3, _ => exact BY 15 _ rfl
        | 4, _ => exact BY 16 _ rfl
        | 5, _ => exact BY 17 _ rfl
        | 6, _ => exact BY 18 _ rfl
        | 7, _ => exact BY 19 _ rfl
        | 8, _ => exact BY 20 _ rfl
        | 9, _ => exact BY 21 _ rfl
        | 10, _ => exact BY 22 _ rfl
        | 11, _ => exact BY 23 _ rfl
      have HT := Lib.hid (l17Same_c xt yt k.t l.t _ _ _ _ _ (hx.table.below B2 (Nat.le_refl _)) (hy.table.below B2 (Nat.le_refl _)) m1.v m1.r m2.v m2.r AX AY)
      clear BX BY AX AY
      go_wp2_with fail
      refine HT.out.mono ?_
      rintro e w3 ⟨rfl, n3, hw3⟩
      have B3 := (F2.step (show Below _ _ w3 from hw3 ▸ below_draws _ _ n3)).below
      clear F2 B2 hw3 HT
      go_wp2
      go_ret
      exact ⟨by simp, B3⟩
    · have hd : decide (xp = yp) = false := decide_eq_false hp
      have HT := Lib.hid hp
      clear hp
      go_wp2
      go_ret
      exact ⟨by simp [HT.out], B2⟩
  · have hq := rEq_ne hr
    have HT := Lib.hid hr
    clear hr F1
    go_enter Try.func50, Try.ntmps50
    go_wp2
    go_ret
    exact ⟨by simp [HT.out], B1⟩

set_option maxRecDepth 100000 in
set_option maxHeartbeats 8000000 in
theorem toDesk_c (x : Dk) (k : DA) (w : World) (h : DRow w x k) (m : x.Len 1048576) :
    Calls Try.prog 51 #[x.val k] w fun e w' => ∃ k', e = .returned (x.val k') ∧ DOwn w' w.heap.size x k' ∧ Below w.heap.size w w' := by
  obtain ⟨h1, h2⟩ := h
  have A0 : Bx w.heap.size (x.cells k).toList (((w.alloc (.cells (x.cells k) 81)).alloc (.cells #[.int .i64 0, .int .i64 0, .bool false, .bool false, .bool false, .bool false, .bool false, .int .i64 0, .int .i64 0, .slice none 0 0, .slice none 0 0, .int .i64 0, .int .i64 0, .int .i64 0, .bool false, .bool false, .bool false, .bool false, .bool false, .int .i64 0, .int .i64 0, .int .i64 0, .slice none 0 0, .slice none 0 0] 87)).alloc (.cells #[.int .i64 0, .int .i64 0, .bool false, .bool false, .bool false, .bool false, .bool false, .int .i64 0, .int .i64 0, .slice none 0 0, .slice none 0 0, .int .i64 0, .int .i64 0, .int .i64 0, .bool false, .bool false, .bool false, .bool false, .bool false, .int .i64 0, .int .i64 0, .int .i64 0, .slice none 0 0, .slice none 0 0] 87)) := ((Bx.alloc w _ _ rfl).allocO (by simp) _ _).allocO (by simp; omega) _ _
  have R0 : Bx (w.heap.size + 1) [.int .i64 0, .int .i64 0, .bool false, .bool false, .bool false, .bool false, .bool false, .int .i64 0, .int .i64 0, .slice none 0 0, .slice none 0 0, .int .i64 0, .int .i64 0, .int .i64 0, .bool false, .bool false, .bool false, .bool false, .bool false, .int .i64 0, .int .i64 0, .int .i64 0, .slice none 0 0, .slice none 0 0] (((w.alloc (.cells (x.cells k) 81)).alloc (.cells #[.int .i64 0, .int .i64 0, .bool false, .bool false, .bool false, .bool false, .bool false, .int .i64 0, .int .i64 0, .slice none 0 0, .slice none 0 0, .int .i64 0, .int .i64 0, .int .i64 0, .bool false, .bool false, .bool false, .bool false, .bool false, .int .i64 0, .int .i64 0, .int .i64 0, .slice none 0 0, .slice none 0 0] 87)).alloc (.cells #[.int .i64 0, .int .i64 0, .bool false, .bool false, .bool false, .bool false, .bool false, .int .i64 0, .int .i64 0, .slice none 0 0, .slice none 0 0, .int .i64 0, .int .i64 0, .int .i64 0, .bool false, .bool false, .bool false, .bool false, .bool false, .int .i64 0, .int .i64 0, .int .i64 0, .slice none 0 0, .slice none 0 0] 87)) := (Bx.alloc _ _ _ (by simp)).allocO (by simp) _ _
  have O0 : Bx (w.heap.size + 1 + 1) [.int .i64 0, .int .i64 0, .bool false, .bool false, .bool false, .bool false, .bool false, .int .i64 0, .int .i64 0, .slice none 0 0, .slice none 0 0, .int .i64 0, .int .i64 0, .int .i64 0, .bool false, .bool false, .bool false, .bool false, .bool false, .int .i64 0, .int .i64 0, .int .i64 0, .slice none 0 0, .slice none 0 0] (((w.alloc (.cells (x.cells k) 81)).alloc (.cells #[.int .i64 0, .int .i64 0, .bool false, .bool false, .bool false, .bool false, .bool false, .int .i64 0, .int .i64 0, .slice none 0 0, .slice none 0 0, .int .i64 0, .int .i64 0, .int .i64 0, .bool false, .bool false, .bool false, .bool false, .bool false, .int .i64 0, .int .i64 0, .int .i64 0, .slice none 0 0, .slice none 0 0] 87)).alloc (.cells #[.int .i64 0, .int .i64 0, .bool false, .bool false, .bool false, .bool false, .bool false, .int .i64 0, .int .i64 0, .slice none 0 0, .slice none 0 0, .int .i64 0, .int .i64 0, .int .i64 0, .bool false, .bool false, .bool false, .bool false, .bool false, .int .i64 0, .int .i64 0, .int .i64 0, .slice none 0 0, .slice none 0 0] 87)) := Bx.alloc _ _ _ (by simp)
  have B0 : Below w.heap.size w (((w.alloc (.cells (x.cells k) 81)).alloc (.cells #[.int .i64 0, .int .i64 0, .bool false, .bool false, .bool false, .bool false, .bool false, .int .i64 0, .int .i64 0, .slice none 0 0, .slice none 0 0, .int .i64 0, .int .i64 0, .int .i64 0, .bool false, .bool false, .bool false, .bool false, .bool false, .int .i64 0, .int .i64 0, .int .i64 0, .slice none 0 0, .slice none 0 0] 87)).alloc (.cells #[.int .i64 0, .int .i64 0, .bool false, .bool false, .bool false, .bool false, .bool false, .int .i64 0, .int .i64 0, .slice none 0 0, .slice none 0 0, .int .i64 0, .int .i64 0, .int .i64 0, .bool false, .bool false, .bool false, .bool false, .bool false, .int .i64 0, .int .i64 0, .int .i64 0, .slice none 0 0, .slice none 0 0] 87)) := below_alloc3 _ _ _ _
  go_enter Try.func51, Try.ntmps51
  go_upto_region 2 with fail
  go_cut [1, 2, 3] from 0 to 16 (fun s1 s2 s3 wx => s1 = .pointer (some ⟨w.heap.size, 0, none⟩) ∧ s2 = .pointer (some ⟨w.heap.size + 1, 0, none⟩) ∧ s3 = .pointer (some ⟨w.heap.size + 1 + 1, 0, none⟩) ∧ Bx w.heap.size (x.cells k).toList wx ∧ Bx (w.heap.size + 1) [.int .i64 0, .int .i64 0, .bool false, .bool false, .bool false, .bool false, .bool false, .int .i64 0, .int .i64 0, .slice none 0 0, .slice none 0 0, .int .i64 0, .int .i64 0, .int .i64 0, .bool false, .bool false, .bool false, .bool false, .bool false, .int .i64 0, .int .i64 0, .int .i64 0, .slice none 0 0, .slice none 0 0] wx ∧ Bx (w.heap.size + 1 + 1) [.int .i64 x.rules.pits, .int .i64 x.rules.seeds, .bool x.rules.stores, .bool x.rules.skip, .bool x.rules.relay, .bool x.rules.feed, .bool x.rules.again, .int .i64 x.rules.capture, .int .i64 x.rules.slam, .slice none 0 0, .slice none 0 0, .int .i64 0, .int .i64 0, .int .i64 0, .bool false, .bool false, .bool false, .bool false, .bool false, .int .i64 0, .int .i64 0, .int .i64 0, .slice none 0 0, .slice none 0 0] wx ∧ Below w.heap.size w wx)
  case first =>
    go_wp2_with fail
    refine (toRules_c x.rules _).mono ?_
    rintro e w1 ⟨rfl, hb1⟩
    simp only [World.size_alloc] at hb1
    have A1 := A0.below hb1 (by omega)
    have R1 := R0.below hb1 (by omega)
    have O1 := O0.below hb1 (by omega)
    have B1 := B0.trans (hb1.mono (by omega))
    clear A0 R0 O0 B0 hb1
    have q0 := O1.box 0 _ rfl
    have q1 := O1.box 1 _ rfl
    have q2 := O1.box 2 _ rfl
    have q3 := O1.box 3 _ rfl
    have q4 := O1.box 4 _ rfl
    have q5 := O1.box 5 _ rfl
    have q6 := O1.box 6 _ rfl
    have q7 := O1.box 7 _ rfl
    have q8 := O1.box 8 _ rfl
    have qf := O1.free
    have z1 := O1.lt (by simp)
    have K0 := Bx.setsO (nb := w.heap.size + 1 + 1) (by omega) [.int .i64 x.rules.pits, .int .i64 x.rules.seeds, .bool x.rules.stores, .bool x.rules.skip, .bool x.rules.relay, .bool x.rules.feed, .bool x.rules.again, .int .i64 x.rules.capture, .int .i64 x.rules.slam] 0 A1
    simp only [World.setCells, setL, List.set_cons_succ, List.set_cons_zero, Nat.reduceAdd] at K0
    have K0 := Lib.hid K0
    have K1 := Bx.setsO (nb := w.heap.size + 1 + 1) (by omega) [.int .i64 x.rules.pits, .int .i64 x.rules.seeds, .bool x.rules.stores, .bool x.rules.skip, .bool x.rules.relay, .bool x.rules.feed, .bool x.rules.again, .int .i64 x.rules.capture, .int .i64 x.rules.slam] 0 R1
    simp only [World.setCells, setL, List.set_cons_succ, List.set_cons_zero, Nat.reduceAdd] at K1
    have K1 := Lib.hid K1
    have K2 := Bx.sets (vs := [.int .i64 x.rules.pits, .int .i64 x.rules.seeds, .bool x.rules.stores, .bool x.rules.skip, .bool x.rules.relay, .bool x.rules.feed, .bool x.rules.again, .int .i64 x.rules.capture, .int .i64 x.rules.slam]) (o := 0) O1 (by simp)
    simp only [World.setCells, setL, List.set_cons_succ, List.set_cons_zero, Nat.reduceAdd] at K2
    have K2 := Lib.hid K2
    have K3 := below_sets (nb := w.heap.size + 1 + 1) (by omega) [.int .i64 x.rules.pits, .int .i64 x.rules.seeds, .bool x.rules.stores, .bool x.rules.skip, .bool x.rules.relay, .bool x.rules.feed, .bool x.rules.again, .int .i64 x.rules.capture, .int .i64 x.rules.slam] 0 B1
    simp only [World.setCells, setL, List.set_cons_succ, List.set_cons_zero, Nat.reduceAdd] at K3
    have K3 := Lib.hid K3
    go_wp2_with fail
    go_meet
    case rel => exact ⟨rfl, rfl, rfl, K0.out, K1.out, K2.out, K3.out⟩
  case rest =>
  clear A0 R0 O0 B0
  obtain ⟨rfl, rfl, rfl, A0, R0, O0, B0⟩ := hcut
  have p9 := A0.box 9 _ rfl
  have p10 := A0.box 10 _ rfl
  have p11 := A0.box 11 _ rfl
  have zz : w.heap.size + 1 + 1 < wc.heap.size := O0.lt (by simp)
  go_upto_region 3 with fail
  go_cut [] from 4 to 16 (fun wx => ∃ pa pc sa sc, Bx w.heap.size (x.cells k).toList wx ∧ Bx (w.heap.size + 1) [.int .i64 0, .int .i64 0, .bool false, .bool false, .bool false, .bool false, .bool false, .int .i64 0, .int .i64 0, .slice none 0 0, .slice none 0 0, .int .i64 0, .int .i64 0, .int .i64 0, .bool false, .bool false, .bool false, .bool false, .bool false, .int .i64 0, .int .i64 0, .int .i64 0, .slice none 0 0, .slice none 0 0] wx ∧ Bx (w.heap.size + 1 + 1) [.int .i64 x.rules.pits, .int .i64 x.rules.seeds, .bool x.rules.stores, .bool x.rules.skip, .bool x.rules.relay, .bool x.rules.feed, .bool x.rules.again, .int .i64 x.rules.capture, .int .i64 x.rules.slam, .slice pa x.pos.pits.length pc, .slice sa x.pos.stores.length sc, .int .i64 x.pos.player, .int .i64 0, .int .i64 0, .bool false, .bool false, .bool false, .bool false, .bool false, .int .i64 0, .int .i64 0, .int .i64 0, .slice none 0 0, .slice none 0 0] wx ∧ Below w.heap.size w wx ∧ POwn wx (w.heap.size + 1 + 1 + 1) x.pos pa pc sa sc)
  case first =>
    go_wp2_with fail
    refine (toPosition_c x.pos k.pa k.sa k.pc k.sc _ (h1.below B0 (Nat.le_refl _)) m.p m.s).mono ?_
    rintro e w1 ⟨pa, pc, sa, sc, rfl, ho, hb1⟩
    have A1 := A0.below hb1 (by omega)
    have R1 := R0.below hb1 (by omega)
    have O1 := O0.below hb1 (by omega)
    have B1 := B0.trans (hb1.mono (by omega))
    have HO := Lib.hid (ho.le (show w.heap.size + 1 + 1 + 1 ≤ _ from zz))
    clear p9
    clear p10
    clear p11
    clear A0 R0 O0 B0 hb1 ho
    have q9 := O1.box 9 _ rfl
    have q10 := O1.box 10 _ rfl
    have q11 := O1.box 11 _ rfl
    have qf := O1.free
    have z1 := O1.lt (by simp)
    have K4 := Bx.setsO (nb := w.heap.size + 1 + 1) (by omega) [.slice pa x.pos.pits.length pc, .slice sa x.pos.stores.length sc, .int .i64 x.pos.player] 9 A1
    simp only [World.setCells, setL, List.set_cons_succ, List.set_cons_zero, Nat.reduceAdd] at K4
    have K4 := Lib.hid K4
    have K5 := Bx.setsO (nb := w.heap.size + 1 + 1) (by omega) [.slice pa x.pos.pits.length pc, .slice sa x.pos.stores.length sc, .int .i64 x.pos.player] 9 R1
    simp only [World.setCells, setL, List.set_cons_succ, List.set_cons_zero, Nat.reduceAdd] at K5
    have K5 := Lib.hid K5
    have K6 := Bx.sets (vs := [.slice pa x.pos.pits.length pc, .slice sa x.pos.stores.length sc, .int .i64 x.pos.player]) (o := 9) O1 (by simp)
    simp only [World.setCells, setL, List.set_cons_succ, List.set_cons_zero, Nat.reduceAdd] at K6
    have K6 := Lib.hid K6
    have K7 := below_sets (nb := w.heap.size + 1 + 1) (by omega) [.slice pa x.pos.pits.length pc, .slice sa x.pos.stores.length sc, .int .i64 x.pos.player] 9 B1
    simp only [World.setCells, setL, List.set_cons_succ, List.set_cons_zero, Nat.reduceAdd] at K7
    have K7 := Lib.hid K7
    have K8 := POwn.sets (nb := w.heap.size + 1 + 1) (by omega) [.slice pa x.pos.pits.length pc, .slice sa x.pos.stores.length sc, .int .i64 x.pos.player] 9 HO.out
    simp only [World.setCells, setL, List.set_cons_succ, List.set_cons_zero, Nat.reduceAdd] at K8
    have K8 := Lib.hid K8
    go_wp2_with fail
    go_meet
    case rel => exact ⟨pa, pc, sa, sc, K4.out, K5.out, K6.out, K7.out, K8.out⟩
  case rest =>
  clear A0 R0 O0 B0 zz
  clear p9
  clear p10
  clear p11
  obtain ⟨pa, pc, sa, sc, A0, R0, O0, B0, HP⟩ := hcut
  have p12 := A0.box 12 _ rfl
  have p13 := A0.box 13 _ rfl
  have p14 := A0.box 14 _ rfl
  have p15 := A0.box 15 _ rfl
  have p16 := A0.box 16 _ rfl
  have p17 := A0.box 17 _ rfl
  have p18 := A0.box 18 _ rfl
  have p19 := A0.box 19 _ rfl
  have p20 := A0.box 20 _ rfl
  have p21 := A0.box 21 _ rfl
  have p22 := A0.box 22 _ rfl
  have p23 := A0.box 23 _ rfl
  have zz : w.heap.size + 1 + 1 < wc.heap.size := O0.lt (by simp)
  go_upto_region 4 with fail
  go_cut [] from 4 to 16 (fun wx => ∃ k', Bx (w.heap.size + 1) [.int .i64 0, .int .i64 0, .bool false, .bool false, .bool false, .bool false, .bool false, .int .i64 0, .int .i64 0, .slice none 0 0, .slice none 0 0, .int .i64 0, .int .i64 0, .int .i64 0, .bool false, .bool false, .bool false, .bool false, .bool false, .int .i64 0, .int .i64 0, .int .i64 0, .slice none 0 0, .slice none 0 0] wx ∧ Bx (w.heap.size + 1 + 1) [.int .i64 x.rules.pits, .int .i64 x.rules.seeds, .bool x.rules.stores, .bool x.rules.skip, .bool x.rules.relay, .bool x.rules.feed, .bool x.rules.again, .int .i64 x.rules.capture, .int .i64 x.rules.slam, .slice pa x.pos.pits.length pc, .slice sa x.pos.stores.length sc, .int .i64 x.pos.player, .int .i64 x.table.rules.pits, .int .i64 x.table.rules.seeds, .bool x.table.rules.stores, .bool x.table.rules.skip, .bool x.table.rules.relay, .bool x.table.rules.feed, .bool x.table.rules.again, .int .i64 x.table.rules.capture, .int .i64 x.table.rules.slam, .int .i64 x.table.most, .slice k'.va x.table.values.length k'.vc, .slice k'.ra x.table.ranks.length k'.rc] wx ∧ Below w.heap.size w wx ∧ POwn wx (w.heap.size + 1 + 1 + 1) x.pos pa pc sa sc ∧ TOwn wx (w.heap.size + 1 + 1 + 1) x.table k')
  case first =>
    go_wp2_with fail
    refine (toTable_c x.table k.t _ (h2.below B0 (Nat.le_refl _)) m.v m.r).mono ?_
    rintro e w1 ⟨k', rfl, ho, hb1⟩
    have R1 := R0.below hb1 (by omega)
    have O1 := O0.below hb1 (by omega)
    have B1 := B0.trans (hb1.mono (by omega))
    have HO := Lib.hid (ho.le (show w.heap.size + 1 + 1 + 1 ≤ _ from zz))
    have HP' := Lib.hid (HP.below hb1 (Nat.le_refl _))
    clear p12
    clear p13
    clear p14
    clear p15
    clear p16
    clear p17
    clear p18
    clear p19
    clear p20
    clear p21
    clear p22
    clear p23
    clear A0 R0 O0 B0 hb1 ho HP
    have q12 := O1.box 12 _ rfl
    have q13 := O1.box 13 _ rfl
    have q14 := O1.box 14 _ rfl
    have q15 := O1.box 15 _ rfl
    have q16 := O1.box 16 _ rfl
    have q17 := O1.box 17 _ rfl
    have q18 := O1.box 18 _ rfl
    have q19 := O1.box 19 _ rfl
    have q20 := O1.box 20 _ rfl
    have q21 := O1.box 21 _ rfl
    have q22 := O1.box 22 _ rfl
    have q23 := O1.box 23 _ rfl
    have qf := O1.free
    have z1 := O1.lt (by simp)
    have K1 := Bx.setsO (nb := w.heap.size + 1 + 1) (by omega) [.int .i64 x.table.rules.pits, .int .i64 x.table.rules.seeds, .bool x.table.rules.stores, .bool x.table.rules.skip, .bool x.table.rules.relay, .bool x.table.rules.feed, .bool x.table.rules.again, .int .i64 x.table.rules.capture, .int .i64 x.table.rules.slam, .int .i64 x.table.most, .slice k'.va x.table.values.length k'.vc, .slice k'.ra x.table.ranks.length k'.rc] 12 R1
    simp only [World.setCells, setL, List.set_cons_succ, List.set_cons_zero, Nat.reduceAdd] at K1
    have K1 := Lib.hid K1
    have K2 := Bx.sets (vs := [.int .i64 x.table.rules.pits, .int .i64 x.table.rules.seeds, .bool x.table.rules.stores, .bool x.table.rules.skip, .bool x.table.rules.relay, .bool x.table.rules.feed, .bool x.table.rules.again, .int .i64 x.table.rules.capture, .int .i64 x.table.rules.slam, .int .i64 x.table.most, .slice k'.va x.table.values.length k'.vc, .slice k'.ra x.table.ranks.length k'.rc]) (o := 12) O1 (by simp)
    simp only [World.setCells, setL, List.set_cons_succ, List.set_cons_zero, Nat.reduceAdd] at K2
    have K2 := Lib.hid K2
    have K3 := below_sets (nb := w.heap.size + 1 + 1) (by omega) [.int .i64 x.table.rules.pits, .int .i64 x.table.rules.seeds, .bool x.table.rules.stores, .bool x.table.rules.skip, .bool x.table.rules.relay, .bool x.table.rules.feed, .bool x.table.rules.again, .int .i64 x.table.rules.capture, .int .i64 x.table.rules.slam, .int .i64 x.table.most, .slice k'.va x.table.values.length k'.vc, .slice k'.ra x.table.ranks.length k'.rc] 12 B1
    simp only [World.setCells, setL, List.set_cons_succ, List.set_cons_zero, Nat.reduceAdd] at K3
    have K3 := Lib.hid K3
    have K4 := POwn.sets (nb := w.heap.size + 1 + 1) (by omega) [.int .i64 x.table.rules.pits, .int .i64 x.table.rules.seeds, .bool x.table.rules.stores, .bool x.table.rules.skip, .bool x.table.rules.relay, .bool x.table.rules.feed, .bool x.table.rules.again, .int .i64 x.table.rules.capture, .int .i64 x.table.rules.slam, .int .i64 x.table.most, .slice k'.va x.table.values.length k'.vc, .slice k'.ra x.table.ranks.length k'.rc] 12 HP'.out
    simp only [World.setCells, setL, List.set_cons_succ, List.set_cons_zero, Nat.reduceAdd] at K4
    have K4 := Lib.hid K4
    have K5 := TOwn.sets (nb := w.heap.size + 1 + 1) (by omega) [.int .i64 x.table.rules.pits, .int .i64 x.table.rules.seeds, .bool x.table.rules.stores, .bool x.table.rules.skip, .bool x.table.rules.relay, .bool x.table.rules.feed, .bool x.table.rules.again, .int .i64 x.table.rules.capture, .int .i64 x.table.rules.slam, .int .i64 x.table.most, .slice k'.va x.table.values.length k'.vc, .slice k'.ra x.table.ranks.length k'.rc] 12 HO.out
    simp only [World.setCells, setL, List.set_cons_succ, List.set_cons_zero, Nat.reduceAdd] at K5
    have K5 := Lib.hid K5
    go_wp2_with fail
    go_meet
    case rel => exact ⟨k', K1.out, K2.out, K3.out, K4.out, K5.out⟩
  case rest =>
  clear A0 R0 O0 B0 zz HP
  clear p12
  clear p13
  clear p14
  clear p15
  clear p16
  clear p17
  clear p18
  clear p19
  clear p20
  clear p21
  clear p22
  clear p23
  obtain ⟨k', R0, O0, B0, HP, HT⟩ := hcut
  have q0 := O0.box 0 _ rfl
  have q1 := O0.box 1 _ rfl
  have q2 := O0.box 2 _ rfl
  have q3 := O0.box 3 _ rfl
  have q4 := O0.box 4 _ rfl
  have q5 := O0.box 5 _ rfl
  have q6 := O0.box 6 _ rfl
  have q7 := O0.box 7 _ rfl
  have q8 := O0.box 8 _ rfl
  have q9 := O0.box 9 _ rfl
  have q10 := O0.box 10 _ rfl
  have q11 := O0.box 11 _ rfl
  have q12 := O0.box 12 _ rfl
  have q13 := O0.box 13 _ rfl
  have q14 := O0.box 14 _ rfl
  have q15 := O0.box 15 _ rfl
  have q16 := O0.box 16 _ rfl
  have q17 := O0.box 17 _ rfl
  have q18 := O0.box 18 _ rfl
  have q19 := O0.box 19 _ rfl
  have q20 := O0.box 20 _ rfl
  have q21 := O0.box 21 _ rfl
  have q22 := O0.box 22 _ rfl
  have q23 := O0.box 23 _ rfl
  have p0 := R0.box 0 _ rfl
  have p1 := R0.box 1 _ rfl
  have p2 := R0.box 2 _ rfl
  have p3 := R0.box 3 _ rfl
  have p4 := R0.box 4 _ rfl
  have p5 := R0.box 5 _ rfl
  have p6 := R0.box 6 _ rfl
  have p7 := R0.box 7 _ rfl
  have p8 := R0.box 8 _ rfl
  have p9 := R0.box 9 _ rfl
  have p10 := R0.box 10 _ rfl
  have p11 := R0.box 11 _ rfl
  have p12 := R0.box 12 _ rfl
  have p13 := R0.box 13 _ rfl
  have p14 := R0.box 14 _ rfl
  have p15 := R0.box 15 _ rfl
  have p16 := R0.box 16 _ rfl
  have p17 := R0.box 17 _ rfl
  have p18 := R0.box 18 _ rfl
  have p19 := R0.box 19 _ rfl
  have p20 := R0.box 20 _ rfl
  have p21 := R0.box 21 _ rfl
  have p22 := R0.box 22 _ rfl
  have p23 := R0.box 23 _ rfl
  have HP := Lib.hid HP
  have HT := Lib.hid HT
  have R1 := Lib.hid (Bx.sets_all (vs := [.int .i64 x.rules.pits, .int .i64 x.rules.seeds, .bool x.rules.stores, .bool x.rules.skip, .bool x.rules.relay, .bool x.rules.feed, .bool x.rules.again, .int .i64 x.rules.capture, .int .i64 x.rules.slam, .slice pa x.pos.pits.length pc, .slice sa x.pos.stores.length sc, .int .i64 x.pos.player, .int .i64 x.table.rules.pits, .int .i64 x.table.rules.seeds, .bool x.table.rules.stores, .bool x.table.rules.skip, .bool x.table.rules.relay, .bool x.table.rules.feed, .bool x.table.rules.again, .int .i64 x.table.rules.capture, .int .i64 x.table.rules.slam, .int .i64 x.table.most, .slice k'.va x.table.values.length k'.vc, .slice k'.ra x.table.ranks.length k'.rc]) R0 rfl)
  have B1 := Lib.hid (below_sets (nb := w.heap.size + 1) (by omega) [.int .i64 x.rules.pits, .int .i64 x.rules.seeds, .bool x.rules.stores, .bool x.rules.skip, .bool x.rules.relay, .bool x.rules.feed, .bool x.rules.again, .int .i64 x.rules.capture, .int .i64 x.rules.slam, .slice pa x.pos.pits.length pc, .slice sa x.pos.stores.length sc, .int .i64 x.pos.player, .int .i64 x.table.rules.pits, .int .i64 x.table.rules.seeds, .bool x.table.rules.stores, .bool x.table.rules.skip, .bool x.table.rules.relay, .bool x.table.rules.feed, .bool x.table.rules.again, .int .i64 x.table.rules.capture, .int .i64 x.table.rules.slam, .int .i64 x.table.most, .slice k'.va x.table.values.length k'.vc, .slice k'.ra x.table.ranks.length k'.rc] 0 B0)
  have P1 := Lib.hid (POwn.sets (nb := w.heap.size + 1) (by omega) [.int .i64 x.rules.pits, .int .i64 x.rules.seeds, .bool x.rules.stores, .bool x.rules.skip, .bool x.rules.relay, .bool x.rules.feed, .bool x.rules.again, .int .i64 x.rules.capture, .int .i64 x.rules.slam, .slice pa x.pos.pits.length pc, .slice sa x.pos.stores.length sc, .int .i64 x.pos.player, .int .i64 x.table.rules.pits, .int .i64 x.table.rules.seeds, .bool x.table.rules.stores, .bool x.table.rules.skip, .bool x.table.rules.relay, .bool x.table.rules.feed, .bool x.table.rules.again, .int .i64 x.table.rules.capture, .int .i64 x.table.rules.slam, .int .i64 x.table.most, .slice k'.va x.table.values.length k'.vc, .slice k'.ra x.table.ranks.length k'.rc] 0 HP.out)
  have T1 := Lib.hid (TOwn.sets (nb := w.heap.size + 1) (by omega) [.int .i64 x.rules.pits, .int .i64 x.rules.seeds, .bool x.rules.stores, .bool x.rules.skip, .bool x.rules.relay, .bool x.rules.feed, .bool x.rules.again, .int .i64 x.rules.capture, .int .i64 x.rules.slam, .slice pa x.pos.pits.length pc, .slice sa x.pos.stores.length sc, .int .i64 x.pos.player, .int .i64 x.table.rules.pits, .int .i64 x.table.rules.seeds, .bool x.table.rules.stores, .bool x.table.rules.skip, .bool x.table.rules.relay, .bool x.table.rules.feed, .bool x.table.rules.again, .int .i64 x.table.rules.capture, .int .i64 x.table.rules.slam, .int .i64 x.table.most, .slice k'.va x.table.values.length k'.vc, .slice k'.ra x.table.ranks.length k'.rc] 0 HT.out)
  have RG : wc.rangeAt (w.heap.size + 1 + 1) 0 [.int .i64 x.rules.pits, .int .i64 x.rules.seeds, .bool x.rules.stores, .bool x.rules.skip, .bool x.rules.relay, .bool x.rules.feed, .bool x.rules.again, .int .i64 x.rules.capture, .int .i64 x.rules.slam, .slice pa x.pos.pits.length pc, .slice sa x.pos.stores.length sc, .int .i64 x.pos.player, .int .i64 x.table.rules.pits, .int .i64 x.table.rules.seeds, .bool x.table.rules.stores, .bool x.table.rules.skip, .bool x.table.rules.relay, .bool x.table.rules.feed, .bool x.table.rules.again, .int .i64 x.table.rules.capture, .int .i64 x.table.rules.slam, .int .i64 x.table.most, .slice k'.va x.table.values.length k'.vc, .slice k'.ra x.table.ranks.length k'.rc] := fun j v hv => by rw [Nat.zero_add]; exact O0.box j v hv
  have TH : wc.there (w.heap.size + 1) 0 24 := R0.there
  have zz : w.heap.size + 1 < wc.heap.size := R0.lt (by simp)
  have RG := Lib.hid RG
  have TH := Lib.hid TH
  clear p0 q0
  clear p1 q1
  clear p2 q2
  clear p3 q3
  clear p4 q4
  clear p5 q5
  clear p6 q6
  clear p7 q7
  clear p8 q8
  clear p9 q9
  clear p10 q10
  clear p11 q11
  clear p12 q12
  clear p13 q13
  clear p14 q14
  clear p15 q15
  clear p16 q16
  clear p17 q17
  clear p18 q18
  clear p19 q19
  clear p20 q20
  clear p21 q21
  clear p22 q22
  clear p23 q23
  clear R0 O0
  go_upto_region 5 with fail
  go_cut [] from 4 to 16 (fun wx => Bx (w.heap.size + 1) [.int .i64 x.rules.pits, .int .i64 x.rules.seeds, .bool x.rules.stores, .bool x.rules.skip, .bool x.rules.relay, .bool x.rules.feed, .bool x.rules.again, .int .i64 x.rules.capture, .int .i64 x.rules.slam, .slice pa x.pos.pits.length pc, .slice sa x.pos.stores.length sc, .int .i64 x.pos.player, .int .i64 x.table.rules.pits, .int .i64 x.table.rules.seeds, .bool x.table.rules.stores, .bool x.table.rules.skip, .bool x.table.rules.relay, .bool x.table.rules.feed, .bool x.table.rules.again, .int .i64 x.table.rules.capture, .int .i64 x.table.rules.slam, .int .i64 x.table.most, .slice k'.va x.table.values.length k'.vc, .slice k'.ra x.table.ranks.length k'.rc] wx ∧ Below w.heap.size w wx ∧ POwn wx (w.heap.size + 1 + 1 + 1) x.pos pa pc sa sc ∧ TOwn wx (w.heap.size + 1 + 1 + 1) x.table k')
  case first =>
    go_step
    refine wpList_load_mid rfl 87 _ rfl _ _ rfl _ _ RG.out Try.underlying87 rfl (by kernel_rfl) ?_
    (try dsimp only)
    refine wpList_store_mid rfl 87 _ _ rfl _ _ #[.int .i64 x.rules.pits, .int .i64 x.rules.seeds, .bool x.rules.stores, .bool x.rules.skip, .bool x.rules.relay, .bool x.rules.feed, .bool x.rules.again, .int .i64 x.rules.capture, .int .i64 x.rules.slam, .slice pa x.pos.pits.length pc, .slice sa x.pos.stores.length sc, .int .i64 x.pos.player, .int .i64 x.table.rules.pits, .int .i64 x.table.rules.seeds, .bool x.table.rules.stores, .bool x.table.rules.skip, .bool x.table.rules.relay, .bool x.table.rules.feed, .bool x.table.rules.again, .int .i64 x.table.rules.capture, .int .i64 x.table.rules.slam, .int .i64 x.table.most, .slice k'.va x.table.values.length k'.vc, .slice k'.ra x.table.ranks.length k'.rc] rfl rfl TH.out (by kernel_rfl) (by simp [Value.oneCell']) ?_
    go_wp2_with fail
    go_meet
    case rel => exact ⟨R1.out, B1.out, P1.out, T1.out⟩
  case rest =>
  obtain ⟨R0, B0, P0, T0⟩ := hcut
  go_wp2_with fail
  exact bodyPost_ret (v := x.val ⟨pa, pc, sa, sc, k'⟩) (results_bx Try.results51 _ rfl _ R0 Try.underlying87 rfl (by kernel_rfl)) rfl ⟨_, rfl, ⟨P0.le (by omega), T0.le (by omega)⟩, B0⟩

/-! ### the law's argument -/
theorem list24 {α : Type} {cs : List α} (h : cs.length = 24) : ∃ a0 a1 a2 a3 a4 a5 a6 a7 a8 a9 a10 a11 a12 a13 a14 a15 a16 a17 a18 a19 a20 a21 a22 a23, cs = [a0, a1, a2, a3, a4, a5, a6, a7, a8, a9, a10, a11, a12, a13, a14, a15, a16, a17, a18, a19, a20, a21, a22, a23] := by
  match cs, h with
  | [a0, a1, a2, a3, a4, a5, a6, a7, a8, a9, a10, a11, a12, a13, a14, a15, a16, a17, a18, a19, a20, a21, a22, a23], _ => exact ⟨a0, a1, a2, a3, a4, a5, a6, a7, a8, a9, a10, a11, a12, a13, a14, a15, a16, a17, a18, a19, a20, a21, a22, a23, rfl⟩
set_option maxRecDepth 100000 in
theorem arg_desk {H : Type} {enc : TypeId × Value → H} {W : World} {base : Nat} {v : Value} {d : DataW H} {q : List MemPlace}
    (hval : Value.okWide Try.prog W .any base 81 v) (h : DataW.Trod enc Try.prog W 0 (fun _ => true) true 81 v d q) :
    ∃ (x : Dk) (k : DA), v = x.val k ∧ DRow W x k ∧ x.Len maxLen := by
  obtain ⟨cs, rfl⟩ := open_struct_val Try.underlying81 hval
  obtain ⟨fuel, hf⟩ := h
  obtain ⟨xs, n, _, _, hl, hxs, hf⟩ := DataW.trod_struct Try.underlying81 hf
  have hc : Try.prog.cellsOf 81 = 24 := by kernel_rfl
  have ct : Try.prog.cellsOf 79 = 12 := by kernel_rfl
  have cr : Try.prog.cellsOf 23 = 9 := by kernel_rfl
  have cp : Try.prog.cellsOf 36 = 3 := by kernel_rfl
  rw [hc] at hl
  obtain ⟨a0, a1, a2, a3, a4, a5, a6, a7, a8, a9, a10, a11, a12, a13, a14, a15, a16, a17, a18, a19, a20, a21, a22, a23, hcs⟩ := list24 hl
  have hcs' : cs.toList = [a0, a1, a2, a3, a4, a5, a6, a7, a8, a9, a10, a11, a12, a13, a14, a15, a16, a17, a18, a19, a20, a21, a22, a23] := hcs
  obtain ⟨y0, y1, y2, rfl⟩ := list3 (cs := xs) (by simpa using hxs)
  have f0 := hf 0 _ rfl
  have f1 := hf 1 _ rfl
  have f2 := hf 2 _ rfl
  simp only [hcs] at f0 f1 f2
  simp [cr, cp, ct] at f0 f1 f2
  obtain ⟨r, er, _⟩ := open_rules f0
  obtain ⟨p, pa, pc, sa, sc, ep, hp, m1, m2, _⟩ := open_pos f1
  obtain ⟨t, k, et, ht, m3, m4⟩ := open_table f2
  simp [R.cells] at er
  simp [P.cells] at ep
  simp [Tb.cells] at et
  obtain ⟨rfl, rfl, rfl, rfl, rfl, rfl, rfl, rfl, rfl⟩ := er
  obtain ⟨rfl, rfl, rfl⟩ := ep
  obtain ⟨rfl, rfl, rfl, rfl, rfl, rfl, rfl, rfl, rfl, rfl, rfl, rfl⟩ := et
  have hr' : cs = (Dk.mk r p t).cells ⟨pa, pc, sa, sc, k⟩ := Array.toList_inj.1 hcs'
  exact ⟨⟨r, p, t⟩, ⟨pa, pc, sa, sc, k⟩, congrArg Value.agg hr', ⟨hp, ht⟩, ⟨m1, m2, m3, m4⟩⟩

end Go.Proofs.Yteabheocbkcmnaa
