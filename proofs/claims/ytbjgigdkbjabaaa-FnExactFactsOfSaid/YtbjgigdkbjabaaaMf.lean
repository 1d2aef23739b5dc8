/- Mf: why a move is not legal: both functions. Each contract holds for every argument, under the premises that it states. -/
import Derived.Test.YtbjgigdkbjabaaaDone
import Derived.Test.YtbjgigdkbjabaaaSMake
namespace Go.Proofs.Ytbjgigdkbjabaaa
set_option linter.unusedSimpArgs false
set_option linter.unusedVariables false
set_option linter.unnecessarySimpa false
open Go.RowKit Go.ChangeShapes Go.WideShapes Go.ChangeAt Go.Joins

theorem makeP_code (r : R) (p : P) (move : Int) : (makeP r p move).code = (doneP r p move).code := by
  unfold makeP makeL
  split
  · rename_i h; simp [h]
  · rfl
theorem doneP_zero {r : R} {p : P} {move : Int} (h : (doneP r p move).code = 0) : codeP r p move = 0 ∧ ∃ L n, sowP r p.player (p.player * r.pits + move) p.pits p.stores = some (L, n) := by
  by_cases hc : codeP r p move = 0
  · refine ⟨hc, ?_⟩
    cases ho : sowP r p.player (p.player * r.pits + move) p.pits p.stores with
    | none =>
      rw [doneP_bad (c := 10) (by omega) (.inr ⟨hc, ho, rfl⟩)] at h
      cases h
    | some x => exact ⟨x.1, x.2, rfl⟩
  · rw [doneP_bad hc (.inl rfl)] at h
    exact absurd h hc
theorem DoneRes.below {w w' : World} {d : Done} {e : Ending} (h : DoneRes w d e w') : Below w.heap.size w w' := by
  obtain ⟨_, _, _, _, _, _, hb⟩ := h; exact hb
theorem MkRes.below {w w' : World} {m : Mk} {e : Ending} (h : MkRes w m e w') : Below w.heap.size w w' := by
  obtain ⟨_, _, _, _, _, _, hb⟩ := h; exact hb

set_option maxHeartbeats 4000000 in
theorem iMoveFault_c (r : R) (p : P) (move : Int) (pa sa : Option Addr) (pc sc : Nat) (w : World) (h : PRow w p pa sa) (m1 : p.pits.length ≤ 16777216) (m2 : p.stores.length ≤ 16777216) (hc : p.pits.length ≤ pc) (hcm : pc ≤ maxLen) :
    Calls Try.prog 157 #[r.val, p.val pa pc sa sc, .int .i64 move] w fun e w' => e = .returned (.int .i64 (doneP r p move).code) ∧ Below w.heap.size w w' := by
  have F0 := ((Fr.start w).alloc r.cells 33).alloc (p.cells pa pc sa sc) 30
  obtain ⟨d, hd⟩ : ∃ d, d = doneP r p move := ⟨_, rfl⟩
  have HC := Lib.hid (fun W (H : PRow W p pa sa) => done_c r p move pa sa pc sc W H m1 m2 hc hcm)
  rw [← hd] at HC ⊢
  clear hd
  go_enter Try.func157, Try.ntmps157
  go_wp2_with fail
  refine (HC.out _ (h.below F0.below (Nat.le_refl _))).mono ?_
  rintro e w1 ⟨ua, uc, va, vc, rfl, ho, hb1⟩
  have F1 := F0.step hb1
  have BW := F1.below
  have hz := F1.below.size
  clear ho hb1 F0 F1
  go_wp2
  go_ret
  refine ⟨rfl, ?_⟩
  repeat (first | (with_reducible exact BW) | ((with_reducible refine Below.setCell ?_ ?_ _); rotate_left; (simp <;> omega)) | ((with_reducible refine Below.alloc ?_ ?_ _); rotate_left; (first | omega | (simp <;> omega))))

set_option maxHeartbeats 4000000 in
theorem sMoveFault_c (r : R) (p : P) (move : Int) (pa sa : Option Addr) (pc sc : Nat) (w : World) (h : PRow w p pa sa) (m1 : p.pits.length ≤ 16777216) (m2 : p.stores.length ≤ 16777216) :
    Calls Try.prog 67 #[r.val, p.val pa pc sa sc, .int .i64 move] w fun e w' => e = .returned (.int .i64 (doneP r p move).code) ∧ Below w.heap.size w w' := by
  have F0 := ((Fr.start w).alloc r.cells 33).alloc (p.cells pa pc sa sc) 30
  have hr := R.boxc (F0.at 1 rfl)
  have hp : P.At _ (w.alloc (.cells r.cells 33)).heap.size 0 p pa pc sa sc := ⟨F0.at 0 rfl 0 _ rfl, F0.at 0 rfl 1 _ rfl, F0.at 0 rfl 2 _ rfl⟩
  simp only [World.size_alloc] at hp
  have HM := Lib.hid (l07Make_c _ _ _ _ r p move pa sa pc sc _ hr hp (h.below F0.below (Nat.le_refl _)) m1 m2)
  clear hr hp
  obtain ⟨d, hd⟩ : ∃ d, d = makeP r p move := ⟨_, rfl⟩
  have HC : Hid (d.code = (doneP r p move).code) := by rw [hd]; exact makeP_code r p move
  rw [← hd] at HM
  rw [← HC.out]
  clear hd
  go_enter Try.func67, Try.ntmps67
  go_wp2_with fail
  refine HM.out.mono ?_
  rintro e w1 ⟨ua, uc, va, vc, rfl, ho, hb1⟩
  have F1 := F0.step hb1
  have BW := F1.below
  have hz := F1.below.size
  clear ho hb1 F0 F1 HM
  go_wp2
  go_ret
  refine ⟨rfl, ?_⟩
  repeat (first | (with_reducible exact BW) | ((with_reducible refine Below.setCell ?_ ?_ _); rotate_left; (simp <;> omega)) | ((with_reducible refine Below.alloc ?_ ?_ _); rotate_left; (first | omega | (simp <;> omega))))


/-! ### ResP: lists of results, in plain terms and in memory. Each fact holds under the premises that it states. -/
structure MA where
  pa : Option Addr
  pc : Nat
  sa : Option Addr
  sc : Nat
def mcells : List (Mk × MA) → List Value
  | [] => []
  | x :: l => (x.1.cells x.2.pa x.2.pc x.2.sa x.2.sc).toList ++ mcells l
theorem mcells_append (l k : List (Mk × MA)) : mcells (l ++ k) = mcells l ++ mcells k := by
  induction l with
  | nil => rfl
  | cons x l ih => simp [mcells, ih]
theorem mcells_get : ∀ (l : List (Mk × MA)) (i j : Nat) (x : Mk × MA), l[i]? = some x → j < 6 → (mcells l)[i * 6 + j]? = (x.1.cells x.2.pa x.2.pc x.2.sa x.2.sc).toList[j]?
  | [], i, j, x, h, hj => by simp at h
  | y :: l, 0, j, x, h, hj => by
    simp at h
    subst h
    have hl : j < (y.1.cells y.2.pa y.2.pc y.2.sa y.2.sc).toList.length := by simpa [Mk.cells] using hj
    rw [Nat.zero_mul, Nat.zero_add, mcells, List.getElem?_append_left hl]
  | y :: l, i + 1, j, x, h, hj => by
    have hl : (y.1.cells y.2.pa y.2.pc y.2.sa y.2.sc).toList.length = 6 := by simp [Mk.cells]
    rw [mcells, List.getElem?_append_right (by omega), hl, ← mcells_get l i j x (by simpa using h) hj]
    congr 1
    omega
/-- the rows of two results lie apart -/
def MkFar (x y : Mk × MA) : Prop := ∀ k, ((Value.slice x.2.pa x.1.pits.length x.2.pc).ownBlock = some k ∨ (Value.slice x.2.sa x.1.stores.length x.2.sc).ownBlock = some k) → ¬ ((Value.slice y.2.pa y.1.pits.length y.2.pc).ownBlock = some k ∨ (Value.slice y.2.sa y.1.stores.length y.2.sc).ownBlock = some k)
/-- a list of results of the call's own -/
structure MksOwn (w : World) (base : Nat) (ad : Option Addr) (c : Nat) (l : List (Mk × MA)) : Prop where
  row : w.ownsRow base 144 6 (.slice ad l.length c) l.length (mcells l)
  items : ∀ x ∈ l, POwn w base ⟨x.1.pits, x.1.stores, x.1.player⟩ x.2.pa x.2.pc x.2.sa x.2.sc ∧ (∀ k, (Value.slice x.2.pa x.1.pits.length x.2.pc).ownBlock = some k → ¬ (Value.slice ad l.length c).ownBlock = some k) ∧ (∀ k, (Value.slice x.2.sa x.1.stores.length x.2.sc).ownBlock = some k → ¬ (Value.slice ad l.length c).ownBlock = some k)
  sep : l.Pairwise MkFar
theorem MksOwn.below {w w' : World} {B base c : Nat} {ad : Option Addr} {l : List (Mk × MA)} (h : MksOwn w base ad c l) (hb : Below B w w') (hB : w.heap.size ≤ B) : MksOwn w' base ad c l :=
  ⟨own_below h.row hb hB, fun x hx => ⟨(h.items x hx).1.below hb hB, (h.items x hx).2⟩, h.sep⟩
theorem MksOwn.le {w : World} {base base' c : Nat} {ad : Option Addr} {l : List (Mk × MA)} (h : MksOwn w base ad c l) (hb : base' ≤ base) : MksOwn w base' ad c l :=
  ⟨ownsRow_le h.row hb, fun x hx => ⟨(h.items x hx).1.le hb, (h.items x hx).2⟩, h.sep⟩
theorem own_grown {base : Nat} {e : TypeId} {size n : Nat} {v : Value} {vs : List Value} {w w' : World} {row : Option Nat} (h : w.ownsRow base e size v n vs) (hg : w.grownBy w' row) (hr : ∀ k, v.ownBlock = some k → ¬ row = some k) : w'.ownsRow base e size v n vs := by
  have hlt := fun k hk => (h.lt k hk).2
  obtain ⟨h1, h2 | ⟨g, cap, cur, hv, hb, hgc, r⟩⟩ := h
  · exact ⟨h1, .inl h2⟩
  · have hk : v.ownBlock = some g := by rw [hv]; rfl
    exact ⟨h1, .inr ⟨g, cap, cur, hv, hb, by rw [hg.block g (hlt g hk) (fun e => hr g hk e.symm)]; exact hgc, r⟩⟩
theorem MksOwn.app {w w' : World} {base c c' : Nat} {ad ad' : Option Addr} {l : List (Mk × MA)} {x : Mk × MA} {hi : Nat} (h : MksOwn w base ad c l) (hrow : ∀ k, (Value.slice ad l.length c).ownBlock = some k → k < hi) (hit : ∀ x ∈ l, (∀ k, (Value.slice x.2.pa x.1.pits.length x.2.pc).ownBlock = some k → k < hi) ∧ (∀ k, (Value.slice x.2.sa x.1.stores.length x.2.sc).ownBlock = some k → k < hi)) (hbh : base ≤ hi)
    (hx : POwn w hi ⟨x.1.pits, x.1.stores, x.1.player⟩ x.2.pa x.2.pc x.2.sa x.2.sc) (hg : w.grownBy w' (Value.slice ad l.length c).ownBlock)
    (ho : w'.ownsRow base 144 6 (.slice ad' (l.length + 1) c') (l.length + 1) (mcells l ++ (x.1.cells x.2.pa x.2.pc x.2.sa x.2.sc).toList))
    (hn : ∀ k, (Value.slice ad' (l.length + 1) c').ownBlock = some k → (Value.slice ad l.length c).ownBlock = some k ∨ w.heap.size ≤ k) : MksOwn w' base ad' c' (l ++ [x]) := by
  have key : ∀ (v : Value) (n : Nat) (e : TypeId) (sz b : Nat) (vs : List Value), w.ownsRow b e sz v n vs → (∀ k, v.ownBlock = some k → ¬ (Value.slice ad l.length c).ownBlock = some k) → (∀ k, v.ownBlock = some k → ¬ (Value.slice ad' (l ++ [x]).length c').ownBlock = some k) := by
    intro v n e sz b vs hv hk k h1 h2
    rw [List.length_append] at h2
    rcases hn k h2 with h3 | h3
    · exact hk k h1 h3
    · have := (hv.lt k h1).2; omega
  refine ⟨by simpa [mcells_append, mcells] using ho, fun y hy => ?_, ?_⟩
  case refine_2 =>
    refine List.pairwise_append.2 ⟨h.sep, List.pairwise_singleton _ _, fun y hy z hz => ?_⟩
    obtain rfl : z = x := by simpa using hz
    intro k h1 h2
    obtain ⟨t1, t2⟩ := hit y hy
    have a1 : k < hi := h1.elim (t1 k) (t2 k)
    have a2 : hi ≤ k := h2.elim (fun e => (hx.pits.lt k e).1) (fun e => (hx.stores.lt k e).1)
    omega
  rcases List.mem_append.1 hy with hy | hy
  · obtain ⟨i1, i2, i3⟩ := h.items y hy
    exact ⟨⟨own_grown i1.pits hg i2, own_grown i1.stores hg i3, i1.apart⟩, key _ _ _ _ _ _ i1.pits i2, key _ _ _ _ _ _ i1.stores i3⟩
  · have hy : y = x := by simpa using hy
    subst hy
    have f1 : ∀ k, (Value.slice y.2.pa y.1.pits.length y.2.pc).ownBlock = some k → ¬ (Value.slice ad l.length c).ownBlock = some k := fun k h1 h2 => by
      have a1 := (hx.pits.lt k h1).1; have a2 := hrow k h2; omega
    have f2 : ∀ k, (Value.slice y.2.sa y.1.stores.length y.2.sc).ownBlock = some k → ¬ (Value.slice ad l.length c).ownBlock = some k := fun k h1 h2 => by
      have a1 := (hx.stores.lt k h1).1; have a2 := hrow k h2; omega
    exact ⟨⟨ownsRow_le (own_grown hx.pits hg f1) hbh, ownsRow_le (own_grown hx.stores hg f2) hbh, hx.apart⟩, key _ _ _ _ _ _ hx.pits f1, key _ _ _ _ _ _ hx.stores f2⟩
/-- the same, with all its blocks from lo to hi -/
def MksP (lo hi : Nat) (ad : Option Addr) (c : Nat) (l : List (Mk × MA)) : World → Prop := fun w => MksOwn w lo ad c l ∧ (∀ k, (Value.slice ad l.length c).ownBlock = some k → k < hi) ∧
  ∀ x ∈ l, (∀ k, (Value.slice x.2.pa x.1.pits.length x.2.pc).ownBlock = some k → k < hi) ∧ (∀ k, (Value.slice x.2.sa x.1.stores.length x.2.sc).ownBlock = some k → k < hi)
theorem MksP.stab (lo hi : Nat) (ad : Option Addr) (c : Nat) (l : List (Mk × MA)) : Stab lo hi (MksP lo hi ad c l) := fun w w' h hk =>
  ⟨⟨own_stab (Nat.le_refl _) h.1.row h.2.1 hk, fun x hx => ⟨⟨own_stab (Nat.le_refl _) (h.1.items x hx).1.pits (h.2.2 x hx).1 hk, own_stab (Nat.le_refl _) (h.1.items x hx).1.stores (h.2.2 x hx).2 hk, (h.1.items x hx).1.apart⟩, (h.1.items x hx).2⟩, h.1.sep⟩, h.2⟩
theorem Fr.mks {w0 w : World} {ls : List Res} (h : Fr w0 w ls) {lo c : Nat} {ad : Option Addr} {l : List (Mk × MA)} (hm : MksOwn w lo ad c l) : Fr w0 w (⟨lo, w.heap.size, MksP lo w.heap.size ad c l⟩ :: ls) :=
  h.add _ _ _ (MksP.stab _ _ _ _ _) ⟨hm, fun k hk => (hm.row.lt k hk).2, fun x hx => ⟨fun k hk => ((hm.items x hx).1.pits.lt k hk).2, fun k hk => ((hm.items x hx).1.stores.lt k hk).2⟩⟩ (Nat.le_refl _)
theorem Fr.appM {w0 w w' : World} {ls : List Res} {lo hi c c' : Nat} {ad ad' : Option Addr} {l : List (Mk × MA)} {x : Mk × MA} (h : Fr w0 w (⟨lo, hi, MksP lo hi ad c l⟩ :: ls)) (hw : w0.heap.size ≤ lo) (hlh : lo ≤ hi) (hd : ∀ r ∈ ls, r.hi ≤ lo)
    (hx : POwn w hi ⟨x.1.pits, x.1.stores, x.1.player⟩ x.2.pa x.2.pc x.2.sa x.2.sc) (hg : w.grownBy w' (Value.slice ad l.length c).ownBlock)
    (ho : w'.ownsRow lo 144 6 (.slice ad' (l.length + 1) c') (l.length + 1) (mcells l ++ (x.1.cells x.2.pa x.2.pc x.2.sa x.2.sc).toList))
    (hn : ∀ k, (Value.slice ad' (l.length + 1) c').ownBlock = some k → (Value.slice ad l.length c).ownBlock = some k ∨ w.heap.size ≤ k) :
    Fr w0 w' (⟨lo, w'.heap.size, MksP lo w'.heap.size ad' c' (l ++ [x])⟩ :: ls) := by
  have hP := h.at 0 rfl
  exact (h.chg (Chg.ofGrown hg (fun k hk => ⟨(hP.1.row.lt k hk).1, hP.2.1 k hk⟩)) hw (fun r hr => .inl (hd r hr))).mks (hP.1.app hP.2.1 hP.2.2 hlh hx hg ho hn)

theorem infoM : (Try.prog.info? 144).map (fun i => (i.zero, i.size, i.bytes)) = some (some (.agg #[.int .i64 0, .int .i64 0, .bool false, .slice none 0 0, .slice none 0 0, .int .i64 0]), 6, 80) := by kernel_rfl
theorem info_parts6 {e : TypeId} {z : Value} {bytes : Nat} (h : (Try.prog.info? e).map (fun i => (i.zero, i.size, i.bytes)) = some (some z, 6, bytes)) :
    ∃ i, Try.prog.info? e = some i ∧ i.zero = some z ∧ i.size = 6 ∧ i.bytes = bytes := by
  cases hi : Try.prog.info? e with
  | none => rw [hi] at h; cases h
  | some i =>
    rw [hi] at h
    simp only [Option.map_some, Option.some.injEq, Prod.mk.injEq] at h
    exact ⟨i, rfl, h.1, h.2.1, h.2.2⟩
theorem mks_none (w : World) (base : Nat) (h : base ≤ w.heap.size) : MksOwn (w.alloc (.cells #[] 144)) base (some ⟨w.heap.size, 0, none⟩) 0 [] :=
  ⟨World.ownsRow_lit (base := base) (e := 144) (size := 6) w #[] 0 h (Nat.zero_le _) rfl, fun x hx => (by cases hx), List.Pairwise.nil⟩

/-! ### which moves lead to what -/
def mkO (r : R) (p : P) (m : Nat) : Option Mk := if (makeP r p m).code = 0 then some (makeP r p m) else none
def allGo (r : R) (p : P) (k : Nat) : List Mk := (List.range k).filterMap (mkO r p)
def allP (r : R) (p : P) : List Mk := allGo r p r.pits.toNat
theorem allGo_bad {r : R} {p : P} {k : Nat} (h : ¬ (makeP r p k).code = 0) : allGo r p (k + 1) = allGo r p k := by
  unfold allGo
  rw [List.range_succ, List.filterMap_append]
  simp [mkO, h]
theorem allGo_ok {r : R} {p : P} {k : Nat} (h : (makeP r p k).code = 0) : allGo r p (k + 1) = allGo r p k ++ [makeP r p k] := by
  unfold allGo
  rw [List.range_succ, List.filterMap_append]
  simp [mkO, h]
theorem allGo_len (r : R) (p : P) (k : Nat) : (allGo r p k).length ≤ k := by
  have := List.length_filterMap_le (mkO r p) (List.range k)
  simpa [allGo] using this
/-- a list of results -/
def MksRes (w : World) (ms : List Mk) (e : Ending) (w' : World) : Prop := ∃ (l : List (Mk × MA)) (ad : Option Addr) (c : Nat), l.map Prod.fst = ms ∧ e = .returned (.slice ad l.length c) ∧ MksOwn w' w.heap.size ad c l ∧ Below w.heap.size w w'
theorem makeP_ok {r : R} {p : P} {move : Int} (h : (doneP r p move).code = 0) : makeP r p move = ⟨0, move, (doneP r p move).stores.getD p.player.toNat 0 - p.stores.getD p.player.toNat 0, r.again && decide ((doneP r p move).last = -1), (doneP r p move).pits, (doneP r p move).stores, if (r.again && decide ((doneP r p move).last = -1)) = true then p.player else 1 - p.player⟩ := by
  unfold makeP makeL
  rw [if_pos h]
/-- what is known of a move that is done -/
theorem doneP_facts {r : R} {p : P} {move : Int} (h : (doneP r p move).code = 0) : (doneP r p move).stores.length = 2 ∧ p.stores.length = 2 ∧ (∀ i : Nat, 0 ≤ (doneP r p move).stores.getD i 0 ∧ (doneP r p move).stores.getD i 0 ≤ 2000) ∧ (∀ i : Nat, 0 ≤ p.stores.getD i 0 ∧ p.stores.getD i 0 ≤ 2000) ∧ (doneP r p move).pits.length ≤ 24 := by
  obtain ⟨hc0, L, n, ho⟩ := doneP_zero h
  obtain ⟨hok, hbd, ⟨pn, hpn, hpn1⟩, t, hB, ht1, hpl⟩ := sowP_brd hc0 ho
  obtain ⟨_, _, t', hB', h0', h1'⟩ := P.ok_parts hok
  have hd : doneP r p move = ⟨0, (takeP r p.player L.pits L.stores L.last).1, (takeP r p.player L.pits L.stores L.last).2, L.last, n⟩ := by
    have h1 := h
    rw [doneP_ok hc0 ho] at h1 ⊢
    unfold doneL at h1 ⊢
    by_cases a : r.slam = 1 ∧ slamP r p.player L.pits L.last = true
    · rw [if_pos a] at h1; simp [Done.bad] at h1
    · rw [if_neg a] at h1 ⊢
      split at h1
      · simp [Done.bad] at h1
      · rename_i b; rw [if_neg b]
  have hl : pn < L.stores.length := by have := hB.ls; omega
  rw [hd]
  refine ⟨by simp [takeP]; exact hB.ls, hB'.ls, fun i => ?_, fun i => ?_, ?_⟩
  · rw [hpn]
    obtain ⟨g0, g1⟩ := gainP_bd (hB.bp ht1) (by omega) (capP r pn L.pits L.last)
    have g2 := (capP_ok hbd pn L.pits L.last hB.lp hpl).2
    have g3 := getD_bd (hB.bs ht1) (by omega) pn
    have g4 := getD_bd (hB.bs ht1) (by omega) i
    simp only [takeP, Int.toNat_natCast]
    by_cases hi : i = pn
    · subst hi
      rw [List.getD_eq_getElem?_getD, List.getElem?_set_self hl]
      simp only [Option.getD_some]
      omega
    · rw [List.getD_eq_getElem?_getD, List.getElem?_set_ne (Ne.symm hi), ← List.getD_eq_getElem?_getD]
      omega
  · have g4 := getD_bd (hB'.bs h1') (by omega) i
    omega
  · have h1 := (takeP_ok hbd hB ht1 (pl := p.player) (last := L.last)).2
    have := hbd.hi
    simp only
    omega

end Go.Proofs.Ytbjgigdkbjabaaa
