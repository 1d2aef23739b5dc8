/- Slt: lists of slots: the law's own functions that size and copy them. Each contract holds for every argument, under the premises that it states. -/
import Derived.Test.YtbjgigdkbjabaaaRowed
import Derived.Test.YtbjgigdkbjabaaaInts
import Derived.Test.YtbjgigdkbjabaaaFrame
import Derived.Test.YtbjgigdkbjabaaaHeld
import Derived.Deep.CutRange
import Derived.Deep.Slices
namespace Go.Proofs.Ytbjgigdkbjabaaa
set_option linter.unusedSimpArgs false
set_option linter.unusedVariables false
set_option linter.unnecessarySimpa false
open Go.RowKit Go.ChangeShapes Go.WideShapes Go.ChangeAt Go.Joins

theorem flat_pairs {α β : Type} {g : α → List β} {R : β → β → Prop} : ∀ {l : List α}, (flat g l).Pairwise R ↔ (∀ x ∈ l, (g x).Pairwise R) ∧ l.Pairwise (fun x y => ∀ a ∈ g x, ∀ b ∈ g y, R a b)
  | [] => by simp [flat]
  | x :: l => by
    rw [flat, List.pairwise_append, flat_pairs (l := l), List.pairwise_cons]
    constructor
    · rintro ⟨h1, ⟨h2, h3⟩, h4⟩
      refine ⟨fun y hy => ?_, fun y hy a ha b hb => h4 a ha b (flat_mem hy hb), h3⟩
      rcases List.mem_cons.1 hy with rfl | hy
      · exact h1
      · exact h2 y hy
    · rintro ⟨h1, h2, h3⟩
      refine ⟨h1 x (List.mem_cons_self ..), ⟨fun y hy => h1 y (List.mem_cons_of_mem _ hy), h3⟩, fun a ha b hb => ?_⟩
      obtain ⟨y, hy, hby⟩ := flat_of_mem hb
      exact h2 y hy a ha b hby
/-- an item is replaced: its rows are new -/
theorem Pcs.put {α : Type} {D : RL α} {w w' : World} {base c hi : Nat} {ad : Option Addr} {l : List α} {j : Nat} {x' : α} (h : Pcs w base (D.pcs ad c l)) (hlt : ∀ q ∈ D.pcs ad c l, ∀ k, q.v.ownBlock = some k → k < hi) (hbh : base ≤ hi)
    (hn : ∀ q ∈ D.g x', q.In hi w) (hs : (D.g x').Pairwise Pc.Far) (hg : w.grownBy w' (Value.slice ad l.length c).ownBlock)
    (ho : w'.ownsRow base D.e D.n (.slice ad l.length c) l.length (flat D.f (l.set j x'))) : Pcs w' base (D.pcs ad c (l.set j x')) := by
  have hmf : ∀ q ∈ flat D.g l, VFar (.slice ad l.length c) q.v := (List.pairwise_cons.1 h.sep).1
  have hmn : ∀ k, (Value.slice ad l.length c).ownBlock = some k → k < hi := hlt _ (List.mem_cons_self ..)
  have hlq : ∀ y ∈ l, ∀ q ∈ D.g y, q.In base w ∧ ∀ k, q.v.ownBlock = some k → k < hi := fun y hy q hq => ⟨h.all q (List.mem_cons_of_mem _ (flat_mem hy hq)), hlt q (List.mem_cons_of_mem _ (flat_mem hy hq))⟩
  have hxk : ∀ q ∈ D.g x', ∀ k, q.v.ownBlock = some k → hi ≤ k := fun q hq k hk => ((hn q hq).lt k hk).1
  obtain ⟨p1, p2⟩ := flat_pairs.1 (List.pairwise_cons.1 h.sep).2
  unfold RL.pcs
  rw [List.length_set]
  refine ⟨fun q hq => ?_, List.pairwise_cons.2 ⟨fun q hq => ?_, flat_pairs.2 ⟨fun y hy => ?_, ?_⟩⟩⟩
  · rcases List.mem_cons.1 hq with rfl | hq
    · exact ho
    · obtain ⟨y, hy, hqy⟩ := flat_of_mem hq
      rcases List.mem_or_eq_of_mem_set hy with hy | rfl
      · exact owned_grown (hlq y hy q hqy).1 hg (fun k h1 h2 => hmf q (flat_mem hy hqy) k h2 h1)
      · exact ownsRow_le (owned_grown (hn q hqy) hg (fun k h1 h2 => by have := hxk q hqy k h1; have := hmn k h2; omega)) hbh
  · intro k h1 h2
    obtain ⟨y, hy, hqy⟩ := flat_of_mem hq
    rcases List.mem_or_eq_of_mem_set hy with hy | rfl
    · exact hmf q (flat_mem hy hqy) k h1 h2
    · have := hxk q hqy k h2
      have := hmn k h1
      omega
  · rcases List.mem_or_eq_of_mem_set hy with hy | rfl
    · exact p1 y hy
    · exact hs
  · rw [List.pairwise_iff_getElem]
    intro i1 i2 h1 h2 h12 a ha b hb k ka kb
    rw [List.length_set] at h1 h2
    rw [List.getElem_set] at ha hb
    split at ha
    · split at hb
      · omega
      · have := hxk a ha k ka
        have := (hlq _ (List.getElem_mem h2) b hb).2 k kb
        omega
    · split at hb
      · have := hxk b hb k kb
        have := (hlq _ (List.getElem_mem h1) a ha).2 k ka
        omega
      · exact List.pairwise_iff_getElem.1 p2 i1 i2 h1 h2 h12 a ha b hb k ka kb

/-! ### slots -/
structure Sl where
  used : Bool
  pits : List Int
  player : Int
  depth : Int
  value : Int
  bound : Int
  deriving DecidableEq
structure SA where
  qa : Option Addr
  qc : Nat
@[go_sem] def Sl.cells (x : Sl) (k : SA) : Array Value := #[.bool x.used, .slice k.qa x.pits.length k.qc, .int .i64 x.player, .int .i64 x.depth, .int .i64 x.value, .int .i64 x.bound]
@[go_sem] def Sl.val (x : Sl) (k : SA) : Value := .agg (x.cells k)
def Sl.nil : Sl := ⟨false, [], 0, 0, 0, 0⟩
def slRL : RL (Sl × SA) where
  e := 113
  n := 6
  f := fun x => (x.1.cells x.2).toList
  m := 1
  g := fun x => [pieceI x.2.qa x.2.qc x.1.pits]
  hf := fun _ => rfl
  hg := fun _ => rfl
/-- what reading such a list needs -/
structure SRows (w : World) (a : Option Addr) (l : List (Sl × SA)) : Prop where
  row : Row w a (flat slRL.f l)
  items : ∀ x ∈ l, Ints w x.2.qa x.1.pits
theorem SRows.below {B : Nat} {w w' : World} {a : Option Addr} {l : List (Sl × SA)} (h : SRows w a l) (hb : Below B w w') (hB : w.heap.size ≤ B) : SRows w' a l := ⟨h.row.below hb hB, fun x hx => (h.items x hx).below hb hB⟩
theorem pcs_srows {w : World} {base c : Nat} {ad : Option Addr} {l : List (Sl × SA)} (h : Pcs w base (slRL.pcs ad c l)) : SRows w ad l :=
  ⟨own_row (h.all _ (List.mem_cons_self ..)), fun x hx => own_row (h.all (pieceI x.2.qa x.2.qc x.1.pits) (List.mem_cons_of_mem _ (flat_mem hx (List.mem_cons_self ..))))⟩
theorem SRows.at {w : World} {a : Option Addr} {l : List (Sl × SA)} (h : SRows w a l) {k : Nat} {x : Sl × SA} (hx : l[k]? = some x) :
    ∃ b off, a = some ⟨b, off, none⟩ ∧ b < w.heap.size ∧ (w.cell? ⟨b, off + k * 6, none⟩ = some (.bool x.1.used) ∧ w.cell? ⟨b, off + k * 6 + 1, none⟩ = some (.slice x.2.qa x.1.pits.length x.2.qc) ∧ w.cell? ⟨b, off + k * 6 + 2, none⟩ = some (.int .i64 x.1.player) ∧
      w.cell? ⟨b, off + k * 6 + 3, none⟩ = some (.int .i64 x.1.depth) ∧ w.cell? ⟨b, off + k * 6 + 4, none⟩ = some (.int .i64 x.1.value) ∧ w.cell? ⟨b, off + k * 6 + 5, none⟩ = some (.int .i64 x.1.bound)) := by
  obtain ⟨b, off, ha, hb, hc⟩ := Row.item (f := slRL.f) slRL.hf h.row hx (by decide)
  have key : ∀ j v, j < 6 → (slRL.f x)[j]? = some v → w.cell? ⟨b, off + k * 6 + j, none⟩ = some v := fun j v hj hv => by
    have := hc j v hj hv
    rw [show off + k * 6 + j = off + (k * slRL.n + j) by rw [show slRL.n = 6 from rfl]; omega]
    exact this
  exact ⟨b, off, ha, hb, key 0 _ (by omega) rfl, key 1 _ (by omega) rfl, key 2 _ (by omega) rfl, key 3 _ (by omega) rfl, key 4 _ (by omega) rfl, key 5 _ (by omega) rfl⟩
theorem szI_casesS (left : Int) (n : Nat) : (left < n ∧ szI left n = -1) ∨ (¬ left < n ∧ szI left n = left - n) := by
  unfold szI
  by_cases h : left < n
  · exact .inl ⟨h, by rw [if_pos h]⟩
  · exact .inr ⟨h, by rw [if_neg h]⟩

set_option maxHeartbeats 1000000 in
theorem szSlot_c (x : Sl) (k : SA) (left : Int) (w : World) (h0 : 0 ≤ left) (h1 : left ≤ 1048576) (hm : x.pits.length ≤ maxLen) :
    Calls Try.prog 126 #[x.val k, .int .i64 left] w fun e w' => e = .returned (.int .i64 (szI left x.pits.length)) ∧ Below w.heap.size w w' := by
  have hs := szI_casesS left x.pits.length
  go_enter Try.func126, Try.ntmps126
  go_wp2_with fail
  refine (szInt64S_c _ _ _ _ _ h0 h1 hm).mono ?_
  rintro e w1 ⟨rfl, rfl⟩
  obtain ⟨y, hy⟩ : ∃ y, y = szI left x.pits.length := ⟨_, rfl⟩
  rw [← hy] at hs
  have HY := Lib.hid hy
  rw [← hy]
  clear hy
  rcases hs with ⟨h2, rfl⟩ | ⟨h2, h3⟩
  · go_wp2
    go_ret
    exact ⟨by rw [← HY.out]; rfl, below_alloc1 _ _⟩
  · have h4 : ¬ y < 0 := by omega
    clear h3
    go_wp2
    go_ret
    exact ⟨by rw [← HY.out]; rfl, below_alloc1 _ _⟩
/-- a size that is left, and what it says of the list -/
def plS (x : Sl × SA) : Int := x.1.pits.length
def SzResS (w : World) (left : Int) (l : List (Sl × SA)) (e : Ending) (w' : World) : Prop := ∃ v : Int, e = .returned (.int .i64 v) ∧ v ≤ left ∧ (0 ≤ v → l.length ≤ 1048576 ∧ (∀ x ∈ l, x.1.pits.length ≤ 1048576) ∧ v + l.length + mkSum plS l = left) ∧ Below w.heap.size w w'
set_option maxHeartbeats 4000000 in
theorem szSlotS_c (l : List (Sl × SA)) (a : Option Addr) (c : Nat) (left : Int) (w : World) (h : SRows w a l) (h0 : 0 ≤ left) (h1 : left ≤ 1048576) (hm : l.length ≤ maxLen) (hq : ∀ x ∈ l, x.1.pits.length ≤ maxLen) :
    Calls Try.prog 70 #[.slice a l.length c, .int .i64 left] w (SzResS w left l) := by
  unfold maxLen at hm
  have HK := Lib.hid h
  have HQ := Lib.hid hq
  clear h hq
  by_cases hs : left - l.length < 0
  · go_enter Try.func70, Try.ntmps70
    go_wp2
    go_ret
    exact ⟨-1, rfl, by omega, fun h => by omega, Below.refl _ _⟩
  · go_enter Try.func70, Try.ntmps70
    go_wp2_with fail
    go_loopw [1, 5] (fun v i wr => ∃ (k : Nat) (n : Int), i = .int .i64 k ∧ v = .int .i64 n ∧ k ≤ l.length ∧ 0 ≤ n ∧ n ≤ left - l.length ∧ Hid (∀ (j : Nat) (hj : j < l.length), j < k → l[j].1.pits.length ≤ 1048576) ∧ Hid (n + mkSum plS (l.take k) = left - l.length) ∧ Below w.heap.size w wr) (fun _ i _ => l.length - (intOf i).toNat)
    case atStart => exact ⟨0, left - l.length, rfl, rfl, Nat.zero_le _, by omega, by omega, fun j _ h => absurd h (by omega), by unfold Hid; simp [mkSum], Below.refl _ _⟩
    case round =>
      obtain ⟨k, n, rfl, rfl, hk, n0, n1, hqs, hsm, hbw⟩ := hrel
      have HB := Lib.hid hbw
      clear hbw
      by_cases hlt : k < l.length
      · obtain ⟨b, off, ha, hb, c0, c1, c2, c3, c4, c5⟩ := (HK.out.below HB.out (Nat.le_refl _)).at (k := k) (x := l[k]) (by simp [hlt])
        subst ha
        have HL := Lib.hid (HQ.out l[k] (List.getElem_mem hlt))
        obtain ⟨y, hy⟩ : ∃ y, y = l[k] := ⟨_, rfl⟩
        rw [← hy] at c0 c1 c2 c3 c4 c5 HL
        have HY := Lib.hid hy
        clear hy
        obtain ⟨x, K⟩ := y
        dsimp only at c0 c1 c2 c3 c4 c5
        go_wp2_with fail
        refine (szSlot_c x K n _ n0 (by omega) HL.out).mono ?_
        rintro e w2 ⟨rfl, hb2⟩
        have HB2 := Lib.hid (below_next HB.out hb2)
        have hs := szI_casesS n x.pits.length
        obtain ⟨q, hq⟩ : ∃ q, q = szI n x.pits.length := ⟨_, rfl⟩
        rw [← hq] at hs ⊢
        clear hq hb2 c0 c1 c2 c3 c4 c5
        rcases hs with ⟨h2, rfl⟩ | ⟨h2, h3⟩
        · go_wp2
          go_ret
          exact ⟨-1, rfl, by omega, fun h => by omega, HB2.out⟩
        · have h4 : ¬ q < 0 := by omega
          have h5 : q ≤ n := by omega
          have h6 : x.pits.length ≤ 1048576 := by omega
          have HSM : Hid (q + mkSum plS (l.take (k + 1)) = left - l.length) := by
            unfold Hid
            have := hsm.out
            rw [List.take_succ_eq_append_getElem hlt, mkSum_append, ← HY.out]
            simp only [mkSum, plS]
            omega
          clear h3
          go_wp2
          go_roundw
          case rel =>
            refine ⟨k + 1, q, by go_num, rfl, by omega, by omega, by omega, fun j hj hjk => ?_, HSM, HB2.out⟩
            by_cases e : j = k
            · subst e; rw [← HY.out]; exact h6
            · exact hqs.out j hj (by omega)
          case measure => simp [intOf]; omega
      · go_wp2
        go_ret
        refine ⟨n, rfl, by omega, fun _ => ⟨by omega, fun x hx => ?_, by have := hsm.out; rw [List.take_of_length_le (by omega)] at this; omega⟩, HB.out⟩
        obtain ⟨j, hj, rfl⟩ := List.mem_iff_getElem.1 hx
        exact hqs.out j hj (by omega)

/-! ### copies -/
set_option maxHeartbeats 2000000 in
theorem toSlot_c (x : Sl) (k : SA) (w : World) (h : Ints w k.qa x.pits) (hm : x.pits.length ≤ 1048576) :
    Calls Try.prog 128 #[x.val k] w fun e w' => ∃ k' : SA, e = .returned (x.val k') ∧ OwnI w' w.heap.size k'.qa k'.qc x.pits ∧ Below w.heap.size w w' := by
  go_enter Try.func128, Try.ntmps128
  go_wp2_with fail
  refine (toInt64S_c k.qa k.qc x.pits _ (h.below (by first | exact below_alloc3 _ _ _ _ | (repeat (first | (with_reducible exact below_alloc3 _ _ _ _) | ((with_reducible refine Below.setCell ?_ ?_ _); rotate_left; (simp <;> omega))))) (Nat.le_refl _)) hm).mono ?_
  rintro e w1 ⟨rfl, ho1, hb1⟩
  obtain ⟨hc1, hf1⟩ := bcell hb1
  simp only [World.size_alloc, World.size_setCell] at hb1 hc1 hf1 ho1
  have hz1 : w.heap.size + 3 ≤ w1.heap.size := by have := hb1.size; simp at this; omega
  have hz1a : w.heap.size < w1.heap.size := by omega
  have hz1b : w.heap.size + 1 < w1.heap.size := by omega
  have hz1c : w.heap.size + 1 + 1 < w1.heap.size := by omega
  have hbw1 : Below w.heap.size w w1 := by
    refine Below.trans ?_ (hb1.mono (by omega))
    repeat (first | (with_reducible exact below_alloc3 _ _ _ _) | ((with_reducible refine Below.setCell ?_ ?_ _); rotate_left; (simp <;> omega)))
  have HO := Lib.hid ho1
  clear ho1
  go_wp2
  refine bodyPost_ret (v := x.val ⟨some ⟨w.heap.size + 1 + 1 + 1, 0, none⟩, x.pits.length⟩) (by simp [results, Try.results128, go_sem, hc1, hz1a, hz1b, hz1c, Sl.val, Sl.cells]) rfl ⟨_, rfl, ?_, ?_⟩
  · have k0 := HO.out
    refine ownsRow_le (base := w.heap.size + 1 + 1 + 1) ?_ (by omega)
    repeat (first | (with_reducible exact k0) | ((with_reducible refine ownsRow_setCell_below ?_ ?_ _); rotate_left; (simp <;> omega)))
  · repeat (first | (with_reducible exact hbw1) | ((with_reducible refine Below.setCell ?_ ?_ _); rotate_left; (simp <;> omega)))

end Go.Proofs.Ytbjgigdkbjabaaa
