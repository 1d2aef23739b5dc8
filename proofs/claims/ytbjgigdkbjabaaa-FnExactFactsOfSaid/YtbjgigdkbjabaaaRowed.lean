/- Rowed: lists of structs that hold rows, all of the call's own and apart: what a store into one of them keeps. Plain facts, under the premises that each statement names. -/
import Derived.Test.YtbjgigdkbjabaaaFlat
namespace Go.Proofs.Ytbjgigdkbjabaaa
set_option linter.unusedSimpArgs false
set_option linter.unusedVariables false
set_option linter.unnecessarySimpa false
open Go.RowKit Go.ChangeShapes Go.WideShapes Go.ChangeAt Go.Joins

/-- a piece of memory of the call's own -/
structure Pc where
  e : TypeId
  size : Nat
  v : Value
  n : Nat
  vs : List Value
def Pc.In (base : Nat) (w : World) (q : Pc) : Prop := w.ownsRow base q.e q.size q.v q.n q.vs
def VFar (x y : Value) : Prop := ∀ k, x.ownBlock = some k → ¬ y.ownBlock = some k
def Pc.Far (q p : Pc) : Prop := VFar q.v p.v
theorem Pc.Far.symm {q p : Pc} (h : q.Far p) : p.Far q := fun k h1 h2 => h k h2 h1
structure Pcs (w : World) (base : Nat) (qs : List Pc) : Prop where
  all : ∀ q ∈ qs, q.In base w
  sep : qs.Pairwise Pc.Far
theorem far_map {qs : List Pc} : qs.Pairwise Pc.Far ↔ (qs.map Pc.v).Pairwise VFar := by
  rw [List.pairwise_map]
  rfl
theorem far_at {qs : List Pc} (h : qs.Pairwise Pc.Far) {i j : Nat} {q p : Pc} (hq : qs[i]? = some q) (hp : qs[j]? = some p) (hne : i ≠ j) : q.Far p := by
  obtain ⟨h1, rfl⟩ := List.getElem?_eq_some_iff.1 hq
  obtain ⟨h2, rfl⟩ := List.getElem?_eq_some_iff.1 hp
  have := List.pairwise_iff_getElem.1 h
  rcases Nat.lt_or_gt_of_ne hne with hl | hl
  · exact this i j h1 h2 hl
  · exact (this j i h2 h1 hl).symm
theorem owned_grown {base : Nat} {e : TypeId} {size n : Nat} {v : Value} {vs : List Value} {w w' : World} {row : Option Nat} (h : w.ownsRow base e size v n vs) (hg : w.grownBy w' row) (hr : ∀ k, v.ownBlock = some k → ¬ row = some k) : w'.ownsRow base e size v n vs := by
  have hlt := fun k hk => (h.lt k hk).2
  obtain ⟨h1, h2 | ⟨g, cap, cur, hv, hb, hgc, r⟩⟩ := h
  · exact ⟨h1, .inl h2⟩
  · have hk : v.ownBlock = some g := by rw [hv]; rfl
    exact ⟨h1, .inr ⟨g, cap, cur, hv, hb, by rw [hg.block g (hlt g hk) (fun e => hr g hk e.symm)]; exact hgc, r⟩⟩
theorem Pcs.upd {w w' : World} {base : Nat} {qs : List Pc} (h : Pcs w base qs) {i : Nat} {q q' : Pc} (hi : qs[i]? = some q) (hg : w.grownBy w' q.v.ownBlock) (ho : q'.In base w') (hv : q'.v = q.v) : Pcs w' base (qs.set i q') := by
  refine ⟨fun x hx => ?_, ?_⟩
  · obtain ⟨j, hj, rfl⟩ := List.mem_iff_getElem.1 hx
    rw [List.length_set] at hj
    rw [List.getElem_set]
    split
    · exact ho
    · rename_i hne
      have hfar := far_at h.sep (List.getElem?_eq_getElem hj) hi (by omega)
      exact owned_grown (h.all _ (List.getElem_mem hj)) hg (fun k h1 h2 => hfar k h1 h2)
  · rw [far_map, List.map_set, hv]
    have : (qs.map Pc.v)[i]? = some q.v := by simp [hi]
    have e : (qs.map Pc.v).set i q.v = qs.map Pc.v := by
      obtain ⟨h1, h2⟩ := List.getElem?_eq_some_iff.1 this
      rw [← h2]
      exact List.set_getElem_self h1
    rw [e]
    exact far_map.1 h.sep
/-- the same, with all its blocks from lo to hi -/
def PcsP (lo hi : Nat) (qs : List Pc) : World → Prop := fun w => Pcs w lo qs ∧ ∀ q ∈ qs, ∀ k, q.v.ownBlock = some k → k < hi
theorem PcsP.stab (lo hi : Nat) (qs : List Pc) : Stab lo hi (PcsP lo hi qs) := fun w w' h hk =>
  ⟨⟨fun q hq => own_stab (Nat.le_refl _) (h.1.all q hq) (h.2 q hq) hk, h.1.sep⟩, h.2⟩
theorem Pcs.mk' {w : World} {lo : Nat} {qs : List Pc} (h : Pcs w lo qs) : PcsP lo w.heap.size qs w := ⟨h, fun q hq k hk => ((h.all q hq).lt k hk).2⟩
theorem addr_addT (b o j : Nat) : (⟨b, o, none⟩ : Addr).add j = ⟨b, o + j, none⟩ := by
  by_cases h : j = 0 <;> simp [Addr.add, h]
theorem Fr.pcs {w0 w : World} {ls : List Res} (h : Fr w0 w ls) {lo : Nat} {qs : List Pc} (hm : Pcs w lo qs) : Fr w0 w (⟨lo, w.heap.size, PcsP lo w.heap.size qs⟩ :: ls) :=
  h.add _ _ _ (PcsP.stab _ _ _) hm.mk' (Nat.le_refl _)
theorem PcsP.upd {w w' : World} {lo hi : Nat} {qs : List Pc} (h : PcsP lo hi qs w) {i : Nat} {q q' : Pc} (hi' : qs[i]? = some q) (hg : w.grownBy w' q.v.ownBlock) (ho : q'.In lo w') (hv : q'.v = q.v) : PcsP lo hi (qs.set i q') w' ∧ Chg lo hi w w' := by
  refine ⟨⟨h.1.upd hi' hg ho hv, fun x hx k hk => ?_⟩, Chg.ofGrown hg (fun k hk => ⟨((h.1.all q (List.mem_of_getElem? hi')).lt k hk).1, h.2 q (List.mem_of_getElem? hi') k hk⟩)⟩
  rcases List.mem_or_eq_of_mem_set hx with hx | rfl
  · exact h.2 x hx k hk
  · rw [hv] at hk
    exact h.2 q (List.mem_of_getElem? hi') k hk
theorem PcsP.below {w w' : World} {lo hi : Nat} {qs : List Pc} (h : PcsP lo hi qs w) (hb : Below w.heap.size w w') : PcsP lo hi qs w' :=
  ⟨⟨fun q hq => own_below (h.1.all q hq) hb (Nat.le_refl _), h.1.sep⟩, h.2⟩

/-! ### a list of structs with rows -/
structure RL (α : Type) where
  e : TypeId
  n : Nat
  f : α → List Value
  m : Nat
  g : α → List Pc
  hf : ∀ x, (f x).length = n
  hg : ∀ x, (g x).length = m
def RL.pcs {α : Type} (D : RL α) (ad : Option Addr) (c : Nat) (l : List α) : List Pc := ⟨D.e, D.n, .slice ad l.length c, l.length, flat D.f l⟩ :: flat D.g l
theorem RL.main {α : Type} {D : RL α} {lo hi c : Nat} {ad : Option Addr} {l : List α} {w : World} (h : PcsP lo hi (D.pcs ad c l) w) : w.ownsRow lo D.e D.n (.slice ad l.length c) l.length (flat D.f l) := h.1.all _ (List.mem_cons_self ..)
theorem RL.row {α : Type} {D : RL α} {lo hi c : Nat} {ad : Option Addr} {l : List α} {w : World} (h : PcsP lo hi (D.pcs ad c l) w) {x : α} (hx : x ∈ l) {q : Pc} (hq : q ∈ D.g x) : q.In lo w := h.1.all _ (List.mem_cons_of_mem _ (flat_mem hx hq))
theorem RL.cell {α : Type} {D : RL α} {lo hi c g : Nat} {l : List α} {w : World} (h : PcsP lo hi (D.pcs (some ⟨g, 0, none⟩) c l) w) {j : Nat} {x : α} (hx : l[j]? = some x) {i : Nat} {v : Value} (hi : i < D.n) (hv : (D.f x)[i]? = some v) : w.cell? ⟨g, j * D.n + i, none⟩ = some v ∧ w.frozen? ⟨g, j * D.n + i, none⟩ = false :=
  ⟨own_item D.hf (RL.main h) hx i v hi hv, (RL.main h).frozenAt _⟩
theorem RL.at {α : Type} {D : RL α} {lo hi c : Nat} {ad : Option Addr} {l : List α} {w : World} (h : PcsP lo hi (D.pcs ad c l) w) (hl : 0 < l.length) : ∃ g, ad = some ⟨g, 0, none⟩ ∧ lo ≤ g ∧ g < w.heap.size := own_lt_n (RL.main h) hl
theorem RL.setField {α : Type} {D : RL α} {lo hi c g : Nat} {l : List α} {w : World} (h : PcsP lo hi (D.pcs (some ⟨g, 0, none⟩) c l) w) {j i : Nat} {x x' : α} {v : Value} (hx : l[j]? = some x) (hi' : i < D.n) (hf : D.f x' = (D.f x).set i v) (hg : D.g x' = D.g x) :
    PcsP lo hi (D.pcs (some ⟨g, 0, none⟩) c (l.set j x')) (w.setCell ⟨g, j * D.n + i, none⟩ v) ∧ Chg lo hi w (w.setCell ⟨g, j * D.n + i, none⟩ v) := by
  have hm := RL.main h
  obtain ⟨o1, o2⟩ := hm.stored (j * D.n + i) v
  have := h.upd (i := 0) (q := ⟨D.e, D.n, .slice (some ⟨g, 0, none⟩) l.length c, l.length, flat D.f l⟩) (q' := ⟨D.e, D.n, .slice (some ⟨g, 0, none⟩) l.length c, l.length, (flat D.f l).set (j * D.n + i) v⟩) rfl o2 o1 rfl
  unfold RL.pcs at this ⊢
  rw [List.set_cons_zero, flat_set D.hf hx hi' hf] at this
  rw [List.length_set, flat_same hx hg]
  exact this
theorem RL.setRow {α : Type} {D : RL α} {lo hi c : Nat} {ad : Option Addr} {l : List α} {w w' : World} (h : PcsP lo hi (D.pcs ad c l) w) {j i : Nat} {x x' : α} {q q' : Pc} (hx : l[j]? = some x) (hi' : i < D.m) (hq : (D.g x)[i]? = some q) (hgr : w.grownBy w' q.v.ownBlock) (ho : q'.In lo w') (hv : q'.v = q.v)
    (hg : D.g x' = (D.g x).set i q') (hf : D.f x' = D.f x) : PcsP lo hi (D.pcs ad c (l.set j x')) w' ∧ Chg lo hi w w' := by
  have hz : (D.pcs ad c l)[j * D.m + i + 1]? = some q := by
    unfold RL.pcs
    rw [List.getElem?_cons_succ, flat_get D.hg l j i x hx hi']
    exact hq
  have := h.upd hz hgr ho hv
  unfold RL.pcs at this ⊢
  rw [List.set_cons_succ, flat_set D.hg hx hi' hg] at this
  rw [List.length_set, flat_same hx hf]
  exact this

@[reducible] def pieceI (a : Option Addr) (c : Nat) (xs : List Int) : Pc := ⟨2, 1, .slice a xs.length c, xs.length, xs.map (Value.int .i64)⟩
theorem flat_of_mem {α β : Type} {g : α → List β} {l : List α} {b : β} (hb : b ∈ flat g l) : ∃ y ∈ l, b ∈ g y := by
  induction l with
  | nil => cases hb
  | cons z l ih =>
    rw [flat, List.mem_append] at hb
    rcases hb with hb | hb
    · exact ⟨z, List.mem_cons_self .., hb⟩
    · obtain ⟨y, hy, hby⟩ := ih hb
      exact ⟨y, List.mem_cons_of_mem _ hy, hby⟩
/-- a list that grows by an item whose rows are new -/
theorem Pcs.app {α : Type} {D : RL α} {w w' : World} {base c g cap hi : Nat} {ad : Option Addr} {l : List α} {x : α} (h : Pcs w base (D.pcs ad c l)) (hlt : ∀ q ∈ D.pcs ad c l, ∀ k, q.v.ownBlock = some k → k < hi) (hbh : base ≤ hi) (hhi : hi ≤ w.heap.size)
    (hx : ∀ q ∈ D.g x, q.In hi w) (hxs : (D.g x).Pairwise Pc.Far) (hg : w.grownBy w' (Value.slice ad l.length c).ownBlock)
    (ho : w'.ownsRow base D.e D.n (.slice (some ⟨g, 0, none⟩) (l.length + 1) cap) (l.length + 1) (flat D.f l ++ D.f x)) (hn : (Value.slice ad l.length c).ownBlock = some g ∨ w.heap.size ≤ g) : Pcs w' base (D.pcs (some ⟨g, 0, none⟩) cap (l ++ [x])) := by
  have hmf : ∀ q ∈ flat D.g l, VFar (.slice ad l.length c) q.v := (List.pairwise_cons.1 h.sep).1
  have hmn : ∀ k, (Value.slice ad l.length c).ownBlock = some k → k < hi := hlt _ (List.mem_cons_self ..)
  have hlq : ∀ q ∈ flat D.g l, q.In base w ∧ ∀ k, q.v.ownBlock = some k → k < hi := fun q hq => ⟨h.all q (List.mem_cons_of_mem _ hq), hlt q (List.mem_cons_of_mem _ hq)⟩
  have hxk : ∀ q ∈ D.g x, ∀ k, q.v.ownBlock = some k → hi ≤ k ∧ k < w.heap.size := fun q hq k hk => (hx q hq).lt k hk
  unfold RL.pcs
  rw [List.length_append, flat_append, flat_append, flat_one, flat_one]
  refine ⟨fun q hq => ?_, List.pairwise_cons.2 ⟨fun q hq => ?_, List.pairwise_append.2 ⟨(List.pairwise_cons.1 h.sep).2, hxs, fun p hp q hq k h1 h2 => ?_⟩⟩⟩
  · rcases List.mem_cons.1 hq with rfl | hq
    · exact ho
    · rcases List.mem_append.1 hq with hq | hq
      · exact owned_grown (hlq q hq).1 hg (fun k h1 h2 => hmf q hq k h2 h1)
      · exact ownsRow_le (owned_grown (hx q hq) hg (fun k h1 h2 => by have := (hxk q hq k h1).1; have := hmn k h2; omega)) hbh
  · intro k h1 h2
    obtain rfl : g = k := by simpa [Value.ownBlock] using h1
    rcases List.mem_append.1 hq with hq | hq
    · rcases hn with hn | hn
      · exact hmf q hq _ hn h2
      · have := (hlq q hq).2 _ h2
        omega
    · have h3 := hxk q hq _ h2
      rcases hn with hn | hn
      · have := hmn _ hn
        omega
      · omega
  · have h3 := (hlq p hp).2 k h1
    have h4 := (hxk q hq k h2).1
    omega
theorem own_same {base : Nat} {e : TypeId} {size n : Nat} {v : Value} {vs : List Value} {w w' : World} (h : w.ownsRow base e size v n vs) (hk : ∀ k, v.ownBlock = some k → w'.heap[k]? = w.heap[k]?) : w'.ownsRow base e size v n vs := by
  obtain ⟨h1, h2 | ⟨g, cap, cur, hv, hb, hg, r⟩⟩ := h
  · exact ⟨h1, .inl h2⟩
  · exact ⟨h1, .inr ⟨g, cap, cur, hv, hb, by rw [hk g (by rw [hv]; rfl)]; exact hg, r⟩⟩
theorem Pcs.same {w w' : World} {base : Nat} {qs : List Pc} (h : Pcs w base qs) (hk : ∀ q ∈ qs, ∀ k, q.v.ownBlock = some k → w'.heap[k]? = w.heap[k]?) : Pcs w' base qs := ⟨fun q hq => own_same (h.all q hq) (hk q hq), h.sep⟩

/-! ### marks that run through the items -/
def mkGo {α : Type} (mk : α → Int → α) (sz : α → Int) : List α → Int → List α
  | [], _ => []
  | x :: l, k => mk x k :: mkGo mk sz l (k + sz x)
def mkSum {α : Type} (sz : α → Int) : List α → Int
  | [] => 0
  | x :: l => sz x + mkSum sz l
theorem mkGo_append {α : Type} (mk : α → Int → α) (sz : α → Int) : ∀ (l m : List α) (k : Int), mkGo mk sz (l ++ m) k = mkGo mk sz l k ++ mkGo mk sz m (k + mkSum sz l)
  | [], m, k => by simp [mkGo, mkSum]
  | x :: l, m, k => by
    rw [List.cons_append, mkGo, mkGo, mkGo_append mk sz l m, mkSum, List.cons_append, Int.add_assoc]
theorem mkSum_append {α : Type} (sz : α → Int) : ∀ (l m : List α), mkSum sz (l ++ m) = mkSum sz l + mkSum sz m
  | [], m => by simp [mkSum]
  | x :: l, m => by rw [List.cons_append, mkSum, mkSum, mkSum_append sz l m, Int.add_assoc]
theorem mkGo_len {α : Type} (mk : α → Int → α) (sz : α → Int) : ∀ (l : List α) (k : Int), (mkGo mk sz l k).length = l.length
  | [], k => rfl
  | x :: l, k => by rw [mkGo, List.length_cons, List.length_cons, mkGo_len mk sz l]
/-- the first j items marked from k on -/
def mkd {α : Type} (mk : α → Int → α) (sz : α → Int) (l : List α) (k : Int) (j : Nat) : List α := mkGo mk sz (l.take j) k ++ l.drop j
def mkAt {α : Type} (sz : α → Int) (l : List α) (k : Int) (j : Nat) : Int := k + mkSum sz (l.take j)
theorem mkd_zero {α : Type} (mk : α → Int → α) (sz : α → Int) (l : List α) (k : Int) : mkd mk sz l k 0 = l := by simp [mkd, mkGo]
theorem mkAt_zero {α : Type} (sz : α → Int) (l : List α) (k : Int) : mkAt sz l k 0 = k := by simp [mkAt, mkSum]
theorem mkAt_succ {α : Type} (sz : α → Int) {l : List α} (k : Int) {j : Nat} {x : α} (hx : l[j]? = some x) : mkAt sz l k (j + 1) = mkAt sz l k j + sz x := by
  obtain ⟨h1, rfl⟩ := List.getElem?_eq_some_iff.1 hx
  unfold mkAt
  rw [List.take_succ_eq_append_getElem h1, mkSum_append]
  simp [mkSum, Int.add_assoc]
theorem mkd_len {α : Type} (mk : α → Int → α) (sz : α → Int) (l : List α) (k : Int) (j : Nat) : (mkd mk sz l k j).length = l.length := by
  simp [mkd, mkGo_len]
  omega
theorem mkd_get {α : Type} (mk : α → Int → α) (sz : α → Int) {l : List α} (k : Int) {j : Nat} (h : j < l.length) : (mkd mk sz l k j)[j]? = l[j]? := by
  unfold mkd
  have h1 : (mkGo mk sz (l.take j) k).length = j := by rw [mkGo_len]; simp; omega
  rw [List.getElem?_append_right (by omega), h1]
  simp
theorem mkd_set {α : Type} (mk : α → Int → α) (sz : α → Int) {l : List α} (k : Int) {j : Nat} {x : α} (hx : l[j]? = some x) : (mkd mk sz l k j).set j (mk x (mkAt sz l k j)) = mkd mk sz l k (j + 1) := by
  obtain ⟨h, rfl⟩ := List.getElem?_eq_some_iff.1 hx
  unfold mkd mkAt
  have h1 : (mkGo mk sz (l.take j) k).length = j := by rw [mkGo_len]; simp; omega
  rw [List.set_append_right _ _ (by omega), h1, List.take_succ_eq_append_getElem h, mkGo_append, List.append_assoc]
  have : l.drop j = l[j] :: l.drop (j + 1) := List.drop_eq_getElem_cons h
  rw [this]
  simp only [mkGo, Nat.sub_self, List.set_cons_zero, List.singleton_append]
theorem mkd_all {α : Type} (mk : α → Int → α) (sz : α → Int) (l : List α) (k : Int) : mkd mk sz l k l.length = mkGo mk sz l k := by simp [mkd]
theorem mkGo_get {α : Type} (mk : α → Int → α) (sz : α → Int) {l : List α} (k : Int) {j : Nat} {x : α} (hx : l[j]? = some x) : (mkGo mk sz l k)[j]? = some (mk x (mkAt sz l k j)) := by
  obtain ⟨h, rfl⟩ := List.getElem?_eq_some_iff.1 hx
  have e : l = l.take j ++ (l[j] :: l.drop (j + 1)) := by
    rw [← List.drop_eq_getElem_cons h, List.take_append_drop]
  have h1 : (mkGo mk sz (l.take j) k).length = j := by rw [mkGo_len]; simp; omega
  rw [show mkGo mk sz l k = mkGo mk sz (l.take j ++ (l[j] :: l.drop (j + 1))) k from congrArg (fun z => mkGo mk sz z k) e, mkGo_append, List.getElem?_append_right (by omega), h1]
  simp [mkGo, mkAt]
theorem mkSum_le {α : Type} (sz : α → Int) (hz : ∀ x, 0 ≤ sz x) : ∀ (l : List α) (j : Nat), 0 ≤ mkSum sz (l.take j) ∧ mkSum sz (l.take j) ≤ mkSum sz l
  | [], j => by simp [mkSum]
  | x :: l, 0 => by
    have := mkSum_le sz hz l l.length
    have h1 := hz x
    rw [List.take_length] at this
    simp [mkSum]
    omega
  | x :: l, j + 1 => by
    have := mkSum_le sz hz l j
    have h1 := hz x
    simp only [List.take_succ_cons, mkSum]
    omega
theorem mkAt_le {α : Type} (sz : α → Int) (hz : ∀ x, 0 ≤ sz x) (l : List α) (k : Int) (j : Nat) : k ≤ mkAt sz l k j ∧ mkAt sz l k j ≤ k + mkSum sz l := by
  have := mkSum_le sz hz l j
  unfold mkAt
  omega
theorem mkAt_all {α : Type} (sz : α → Int) (l : List α) (k : Int) : mkAt sz l k l.length = k + mkSum sz l := by simp [mkAt]
end Go.Proofs.Ytbjgigdkbjabaaa
