/- FlRow: lists of flat structs (Row): the law's own functions that copy, compare, mark and read them; the argument, opened. Each contract holds for every argument, under the premises that it states. -/
import Derived.Test.YtbjgigdkbjabaaaRowed
import Derived.Test.YtbjgigdkbjabaaaInts
import Derived.Test.YtbjgigdkbjabaaaHeld
import Derived.Deep.CutRange
import Derived.Deep.Slices
namespace Go.Proofs.Ytbjgigdkbjabaaa
set_option linter.unusedSimpArgs false
set_option linter.unusedVariables false
set_option linter.unnecessarySimpa false
open Go.RowKit Go.ChangeShapes Go.WideShapes Go.ChangeAt Go.Joins

structure Rw where
  player : Int
  points : Int
  wins : Int
  games : Int
  against : Int
  strength : Int
  deriving DecidableEq
@[go_sem] def Rw.cells (x : Rw) : Array Value := #[.int .i64 x.player, .int .i64 x.points, .int .i64 x.wins, .int .i64 x.games, .int .i64 x.against, .int .i64 x.strength]
@[go_sem] def Rw.val (x : Rw) : Value := .agg x.cells
def Rw.nil : Rw := ⟨0, 0, 0, 0, 0, 0⟩
def rwRL : RL Rw where
  e := 84
  n := 6
  f := fun x => x.cells.toList
  m := 0
  g := fun _ => []
  hf := fun _ => rfl
  hg := fun _ => rfl
theorem rw_at {w : World} {a : Option Addr} {l : List Rw} (h : Row w a (flat rwRL.f l)) {k : Nat} {x : Rw} (hx : l[k]? = some x) :
    ∃ b off, a = some ⟨b, off, none⟩ ∧ b < w.heap.size ∧ (w.cell? ⟨b, off + k * 6, none⟩ = some (.int .i64 x.player) ∧ w.cell? ⟨b, off + k * 6 + 1, none⟩ = some (.int .i64 x.points) ∧ w.cell? ⟨b, off + k * 6 + 2, none⟩ = some (.int .i64 x.wins) ∧ w.cell? ⟨b, off + k * 6 + 3, none⟩ = some (.int .i64 x.games) ∧ w.cell? ⟨b, off + k * 6 + 4, none⟩ = some (.int .i64 x.against) ∧ w.cell? ⟨b, off + k * 6 + 5, none⟩ = some (.int .i64 x.strength)) := by
  obtain ⟨b, off, ha, hb, hc⟩ := Row.item (f := rwRL.f) rwRL.hf h hx (by decide)
  have key : ∀ j v, j < 6 → (rwRL.f x)[j]? = some v → w.cell? ⟨b, off + k * 6 + j, none⟩ = some v := fun j v hj hv => by
    have := hc j v hj hv
    rw [show off + k * 6 + j = off + (k * rwRL.n + j) by rw [show rwRL.n = 6 from rfl]; omega]
    exact this
  exact ⟨b, off, ha, hb, key 0 _ (by omega) rfl, key 1 _ (by omega) rfl, key 2 _ (by omega) rfl, key 3 _ (by omega) rfl, key 4 _ (by omega) rfl, key 5 _ (by omega) rfl⟩
theorem rw_row {w : World} {lo hi c : Nat} {ad : Option Addr} {l : List Rw} (h : PcsP lo hi (rwRL.pcs ad c l) w) : Row w ad (flat rwRL.f l) := own_row (RL.main h)

theorem rw_pcs {w : World} {base c : Nat} {ad : Option Addr} {l : List Rw} (h : w.ownsRow base 84 6 (.slice ad l.length c) l.length (flat rwRL.f l)) : Pcs w base (rwRL.pcs ad c l) := by
  have hg : flat rwRL.g l = [] := by
    clear h
    induction l with
    | nil => rfl
    | cons x l ih => rw [flat, ih]; rfl
  unfold RL.pcs
  rw [hg]
  refine ⟨fun q hq => ?_, List.pairwise_singleton _ _⟩
  obtain rfl := List.mem_singleton.1 hq
  exact h
theorem infoRw : (Try.prog.info? 84).map (fun i => (i.zero, i.size, i.bytes)) = some (some (.agg #[.int .i64 0, .int .i64 0, .int .i64 0, .int .i64 0, .int .i64 0, .int .i64 0]), 6, 48) := by kernel_rfl
theorem info_partsRw {e : TypeId} {z : Value} {size bytes : Nat} (h : (Try.prog.info? e).map (fun i => (i.zero, i.size, i.bytes)) = some (some z, size, bytes)) :
    ∃ i, Try.prog.info? e = some i ∧ i.zero = some z ∧ i.size = size ∧ i.bytes = bytes := by
  cases hi : Try.prog.info? e with
  | none => rw [hi] at h; cases h
  | some i =>
    rw [hi] at h
    simp only [Option.map_some, Option.some.injEq, Prod.mk.injEq] at h
    exact ⟨i, rfl, h.1, h.2.1, h.2.2⟩
set_option maxHeartbeats 4000000 in
theorem eqRow_c (x : Rw) (w : World) : Calls Try.prog 95 #[x.val, x.val] w fun e w' => e = .returned (.bool true) ∧ Below w.heap.size w w' := by
  go_enter Try.func95, Try.ntmps95
  go_wp2
  go_ret
  exact ⟨rfl, below_alloc2 _ _ _⟩

set_option maxRecDepth 100000 in
set_option maxHeartbeats 4000000 in
theorem eqRowS_c (l : List Rw) (a b : Option Addr) (c d : Nat) (w : World) (hl : Row w a (flat rwRL.f l)) (hm : Row w b (flat rwRL.f l)) (hn : l.length ≤ 1048576) :
    Calls Try.prog 40 #[.slice a l.length c, .slice b l.length d] w fun e w' => e = .returned (.bool true) ∧ Below w.heap.size w w' := by
  have HL := Lib.hid hl
  have HM := Lib.hid hm
  clear hl hm
  go_enter Try.func40, Try.ntmps40
  go_wp2_with fail
  go_loopw [5] (fun i wr => ∃ (j : Nat), i = .int .i64 j ∧ j ≤ l.length ∧ Hid (Below w.heap.size w wr)) (fun i _ => l.length - (intOf i).toNat)
  case atStart => exact ⟨0, rfl, Nat.zero_le _, Lib.hid (Below.refl _ _)⟩
  case round =>
    obtain ⟨j, rfl, hj, HB⟩ := hrel
    by_cases hlt : j < l.length
    · obtain ⟨ab, ao, ha, hab, hA⟩ := rw_at (HL.out.below HB.out (Nat.le_refl _)) (k := j) (x := l[j]) (by simp [hlt])
      obtain ⟨bb, bo, hb, hbb, hB⟩ := rw_at (HM.out.below HB.out (Nat.le_refl _)) (k := j) (x := l[j]) (by simp [hlt])
      subst ha hb
      obtain ⟨x, hx⟩ : ∃ y, y = l[j] := ⟨_, rfl⟩
      rw [← hx] at hA hB
      clear hx
      have HAB : Hid (∀ W, Below wr.heap.size wr W → (W.cell? ⟨ab, ao + j * 6, none⟩ = some (.int .i64 x.player) ∧ W.cell? ⟨ab, ao + j * 6 + 1, none⟩ = some (.int .i64 x.points) ∧ W.cell? ⟨ab, ao + j * 6 + 2, none⟩ = some (.int .i64 x.wins) ∧ W.cell? ⟨ab, ao + j * 6 + 3, none⟩ = some (.int .i64 x.games) ∧ W.cell? ⟨ab, ao + j * 6 + 4, none⟩ = some (.int .i64 x.against) ∧ W.cell? ⟨ab, ao + j * 6 + 5, none⟩ = some (.int .i64 x.strength)) ∧ (W.cell? ⟨bb, bo + j * 6, none⟩ = some (.int .i64 x.player) ∧ W.cell? ⟨bb, bo + j * 6 + 1, none⟩ = some (.int .i64 x.points) ∧ W.cell? ⟨bb, bo + j * 6 + 2, none⟩ = some (.int .i64 x.wins) ∧ W.cell? ⟨bb, bo + j * 6 + 3, none⟩ = some (.int .i64 x.games) ∧ W.cell? ⟨bb, bo + j * 6 + 4, none⟩ = some (.int .i64 x.against) ∧ W.cell? ⟨bb, bo + j * 6 + 5, none⟩ = some (.int .i64 x.strength))) := fun W hW => ⟨⟨(hW.cell (show (Addr.mk _ _ none).block < _ from hab)).trans hA.1, (hW.cell (show (Addr.mk _ _ none).block < _ from hab)).trans hA.2.1, (hW.cell (show (Addr.mk _ _ none).block < _ from hab)).trans hA.2.2.1, (hW.cell (show (Addr.mk _ _ none).block < _ from hab)).trans hA.2.2.2.1, (hW.cell (show (Addr.mk _ _ none).block < _ from hab)).trans hA.2.2.2.2.1, (hW.cell (show (Addr.mk _ _ none).block < _ from hab)).trans hA.2.2.2.2.2⟩, ⟨(hW.cell (show (Addr.mk _ _ none).block < _ from hbb)).trans hB.1, (hW.cell (show (Addr.mk _ _ none).block < _ from hbb)).trans hB.2.1, (hW.cell (show (Addr.mk _ _ none).block < _ from hbb)).trans hB.2.2.1, (hW.cell (show (Addr.mk _ _ none).block < _ from hbb)).trans hB.2.2.2.1, (hW.cell (show (Addr.mk _ _ none).block < _ from hbb)).trans hB.2.2.2.2.1, (hW.cell (show (Addr.mk _ _ none).block < _ from hbb)).trans hB.2.2.2.2.2⟩⟩
      go_upto_region 6 with fail
      refine heldH (S := fun W => (W.cell? ⟨ab, ao + j * 6, none⟩ = some (.int .i64 x.player) ∧ W.cell? ⟨ab, ao + j * 6 + 1, none⟩ = some (.int .i64 x.points) ∧ W.cell? ⟨ab, ao + j * 6 + 2, none⟩ = some (.int .i64 x.wins) ∧ W.cell? ⟨ab, ao + j * 6 + 3, none⟩ = some (.int .i64 x.games) ∧ W.cell? ⟨ab, ao + j * 6 + 4, none⟩ = some (.int .i64 x.against) ∧ W.cell? ⟨ab, ao + j * 6 + 5, none⟩ = some (.int .i64 x.strength)) ∧ (W.cell? ⟨bb, bo + j * 6, none⟩ = some (.int .i64 x.player) ∧ W.cell? ⟨bb, bo + j * 6 + 1, none⟩ = some (.int .i64 x.points) ∧ W.cell? ⟨bb, bo + j * 6 + 2, none⟩ = some (.int .i64 x.wins) ∧ W.cell? ⟨bb, bo + j * 6 + 3, none⟩ = some (.int .i64 x.games) ∧ W.cell? ⟨bb, bo + j * 6 + 4, none⟩ = some (.int .i64 x.against) ∧ W.cell? ⟨bb, bo + j * 6 + 5, none⟩ = some (.int .i64 x.strength))) (n := 10) (listed := #[false, false, false, false, false, false, false, false, false, false]) (by kernel_rfl) (by rfl) (by rfl) ?_ (fun hHeld => ?_)
      (focus ((try dsimp only); (first | done | ((first | exact HAB.out _ HB2.out | exact HAB.out _ (Below.refl _ _).drew); done))))
      (refine takeH (i := 0) (v := ?_) (by decide +kernel) (by decide +kernel) (by kernel_rfl) (by rfl) (by exact fun _ _ _ h => h) (by rfl) ?_ (by assumption) ?_); rotate_left; (focus (intro w hSw; (try dsimp only at hSw); go_simp; (try with_reducible rfl); done)); (try simp only [Act.put, List.setIfInBounds_toArray, List.set_cons_zero, List.set_cons_succ])
      (refine takeH (i := 1) (v := ?_) (by decide +kernel) (by decide +kernel) (by kernel_rfl) (by rfl) (by exact fun _ _ _ h => h) (by rfl) ?_ (by assumption) ?_); rotate_left; (focus (intro w hSw; (try dsimp only at hSw); go_simp; (try with_reducible rfl); done)); (try simp only [Act.put, List.setIfInBounds_toArray, List.set_cons_zero, List.set_cons_succ])
      (refine takeH (i := 2) (v := ?_) (by decide +kernel) (by decide +kernel) (by kernel_rfl) (by rfl) (by exact fun _ _ _ h => h) (by rfl) ?_ (by assumption) ?_); rotate_left; (focus (intro w hSw; (try dsimp only at hSw); go_simp; (try with_reducible rfl); done)); (try simp only [Act.put, List.setIfInBounds_toArray, List.set_cons_zero, List.set_cons_succ])
      (refine takeH (i := 3) (v := ?_) (by decide +kernel) (by decide +kernel) (by kernel_rfl) (by rfl) (by exact fun _ _ _ h => h) (by rfl) ?_ (by assumption) ?_); rotate_left; (focus (intro w hSw; (try dsimp only at hSw); go_simp; (try with_reducible rfl); done)); (try simp only [Act.put, List.setIfInBounds_toArray, List.set_cons_zero, List.set_cons_succ])
      (refine takeH (i := 4) (v := ?_) (by decide +kernel) (by decide +kernel) (by kernel_rfl) (by rfl) (by exact fun _ _ _ h => h) (by rfl) ?_ (by assumption) ?_); rotate_left; (focus (intro w hSw; (try dsimp only at hSw); go_simp; (try with_reducible rfl); done)); (try simp only [Act.put, List.setIfInBounds_toArray, List.set_cons_zero, List.set_cons_succ])
      (refine takeH (i := 5) (v := ?_) (by decide +kernel) (by decide +kernel) (by kernel_rfl) (by rfl) (by exact fun _ _ _ h => h) (by rfl) ?_ (by assumption) ?_); rotate_left; (focus (intro w hSw; (try dsimp only at hSw); go_simp; (try with_reducible rfl); done)); (try simp only [Act.put, List.setIfInBounds_toArray, List.set_cons_zero, List.set_cons_succ])
      (refine takeH (i := 6) (v := ?_) (by decide +kernel) (by decide +kernel) (by kernel_rfl) (by rfl) (by exact fun _ _ _ h => h) (by rfl) ?_ (by assumption) ?_); rotate_left; (focus (intro w hSw; (try dsimp only at hSw); go_simp; (try with_reducible rfl); done)); (try simp only [Act.put, List.setIfInBounds_toArray, List.set_cons_zero, List.set_cons_succ])
      (refine takeH (i := 7) (v := ?_) (by decide +kernel) (by decide +kernel) (by kernel_rfl) (by rfl) (by exact fun _ _ _ h => h) (by rfl) ?_ (by assumption) ?_); rotate_left; (focus (intro w hSw; (try dsimp only at hSw); go_simp; (try with_reducible rfl); done)); (try simp only [Act.put, List.setIfInBounds_toArray, List.set_cons_zero, List.set_cons_succ])
      refine nextH (i := 8) (by decide +kernel) (by rfl) (by rfl) (fun K hK => ?_)
      go_simp
      (go_at_call 95; (refine (eqRow_c x _).mono ?_); (rintro e w2 ⟨rfl, hb2⟩); (have HB2 := Lib.hid (below_next (Below.refl wr.heap.size wr).drew hb2)))
      refine hK.out _ _ ?_ (fun hHeld' => ?_)
      (focus ((try dsimp only); (first | done | ((first | exact HAB.out _ HB2.out | exact HAB.out _ (Below.refl _ _).drew); done))))
      clear hK K hHeld
      have hHeld := hHeld'
      clear hHeld'
      (try simp only [Act.put, List.setIfInBounds_toArray, List.set_cons_zero, List.set_cons_succ])
      (refine takeH (i := 9) (v := ?_) (by decide +kernel) (by decide +kernel) (by kernel_rfl) (by rfl) (by exact fun _ _ _ h => h) (by rfl) ?_ (by assumption) ?_); rotate_left; (focus (intro w hSw; (try dsimp only at hSw); go_simp; (try with_reducible rfl); done)); (try simp only [Act.put, List.setIfInBounds_toArray, List.set_cons_zero, List.set_cons_succ])
      refine wpAnyH_done (by decide +kernel) ?_ _
      have HB3 := Lib.hid (below_next HB.out HB2.out)
      clear hHeld hb2 HB HAB hA hB HB2
      go_wp2
      go_roundw
      case rel => exact ⟨j + 1, by go_num, by omega, HB3⟩
      case measure => simp [intOf]; omega
    · go_wp2
      go_ret
      exact ⟨rfl, HB.out⟩

def mkRw (x : Rw) (k : Int) : Rw := ⟨k, k + 1, k + 1 + 1, k + 1 + 1 + 1, k + 1 + 1 + 1 + 1, k + 1 + 1 + 1 + 1 + 1⟩
def szRw (x : Rw) : Int := 6
theorem szRw_pos (x : Rw) : 0 ≤ szRw x := by unfold szRw; omega
theorem szRw_sum : ∀ l : List Rw, mkSum szRw l = 6 * (l.length : Int)
  | [] => by simp [mkSum]
  | x :: l => by rw [mkSum, szRw_sum l, szRw, List.length_cons]; omega
set_option maxRecDepth 100000 in
set_option maxHeartbeats 8000000 in
theorem markRowS_c (lo hi : Nat) (ad : Option Addr) (c : Nat) (l : List Rw) (k : Int) (w : World) (h : PcsP lo hi (rwRL.pcs ad c l) w) (hn : l.length ≤ 1048576) (hk : 0 ≤ k) (hk' : k ≤ 1000000000) :
    Calls Try.prog 43 #[.slice ad l.length c, .int .i64 k] w fun e w' => e = .returned (.int .i64 (k + 6 * (l.length : Int))) ∧ PcsP lo hi (rwRL.pcs ad c (mkGo mkRw szRw l k)) w' ∧ Chg lo hi w w' := by
  have HH := Lib.hid h
  clear h
  have hsum := szRw_sum l
  go_enter Try.func43, Try.ntmps43
  go_wp2
  go_loopw [1, 5] (fun q i wr => ∃ j : Nat, j ≤ l.length ∧ i = .int .i64 j ∧ q = .int .i64 (mkAt szRw l k j) ∧ Hid (PcsP lo hi (rwRL.pcs ad c (mkd mkRw szRw l k j)) wr ∧ Chg lo hi w wr)) (fun _ i _ => l.length - (intOf i).toNat)
  case atStart => exact ⟨0, Nat.zero_le _, rfl, by rw [mkAt_zero], by unfold Hid; rw [mkd_zero]; exact ⟨HH.out, Chg.refl _ _ _⟩⟩
  case round =>
    obtain ⟨j, hj, rfl, rfl, HST⟩ := hrel
    clear HH
    by_cases hlt : j < l.length
    · have hx0 : l[j]? = some l[j] := List.getElem?_eq_getElem hlt
      have hx1 : (mkd mkRw szRw l k j)[j]? = some l[j] := by rw [mkd_get mkRw szRw k hlt]; exact hx0
      have HN : Hid (mkAt szRw l k (j + 1) = mkAt szRw l k j + szRw l[j]) := mkAt_succ szRw k hx0
      have HS : Hid ((mkd mkRw szRw l k j).set j (mkRw l[j] (mkAt szRw l k j)) = mkd mkRw szRw l k (j + 1)) := mkd_set mkRw szRw k hx0
      have hb1 := mkAt_le szRw szRw_pos l k j
      have hb2 := mkAt_le szRw szRw_pos l k (j + 1)
      have HLL : Hid ((mkd mkRw szRw l k j).length = l.length) := mkd_len mkRw szRw l k j
      rw [HN.out] at hb2
      obtain ⟨y, hy⟩ : ∃ y, y = l[j] := ⟨_, rfl⟩
      obtain ⟨K, hK⟩ : ∃ K, K = mkAt szRw l k j := ⟨_, rfl⟩
      obtain ⟨L, hL⟩ : ∃ L, L = mkd mkRw szRw l k j := ⟨_, rfl⟩
      rw [← hK] at HN HS hb1 hb2 ⊢
      rw [← hy] at HN HS hx1 hb2
      rw [← hL] at HS hx1 HST HLL
      clear hy hK hL hx0
      simp only [szRw] at hb2
      obtain ⟨h2, hC0⟩ := HST.out
      have hll := HLL.out
      obtain ⟨g, hg, hg1, hg2⟩ := RL.at h2 (by omega)
      subst hg
      obtain ⟨h3, g0⟩ := RL.setField h2 hx1 (i := 0) (v := .int .i64 (K)) (x' := (⟨K, y.points, y.wins, y.games, y.against, y.strength⟩ : Rw)) (by decide) rfl rfl
      have hx2 : (L.set j (⟨K, y.points, y.wins, y.games, y.against, y.strength⟩ : Rw))[j]? = some ⟨K, y.points, y.wins, y.games, y.against, y.strength⟩ := List.getElem?_set_self (by omega)
      obtain ⟨h4, g1⟩ := RL.setField h3 hx2 (i := 1) (v := .int .i64 (K + 1)) (x' := (⟨K, K + 1, y.wins, y.games, y.against, y.strength⟩ : Rw)) (by decide) rfl rfl
      rw [List.set_set] at h4
      have hx3 : (L.set j (⟨K, K + 1, y.wins, y.games, y.against, y.strength⟩ : Rw))[j]? = some ⟨K, K + 1, y.wins, y.games, y.against, y.strength⟩ := List.getElem?_set_self (by omega)
      obtain ⟨h5, g2⟩ := RL.setField h4 hx3 (i := 2) (v := .int .i64 (K + 1 + 1)) (x' := (⟨K, K + 1, K + 1 + 1, y.games, y.against, y.strength⟩ : Rw)) (by decide) rfl rfl
      rw [List.set_set] at h5
      have hx4 : (L.set j (⟨K, K + 1, K + 1 + 1, y.games, y.against, y.strength⟩ : Rw))[j]? = some ⟨K, K + 1, K + 1 + 1, y.games, y.against, y.strength⟩ := List.getElem?_set_self (by omega)
      obtain ⟨h6, g3⟩ := RL.setField h5 hx4 (i := 3) (v := .int .i64 (K + 1 + 1 + 1)) (x' := (⟨K, K + 1, K + 1 + 1, K + 1 + 1 + 1, y.against, y.strength⟩ : Rw)) (by decide) rfl rfl
      rw [List.set_set] at h6
      have hx5 : (L.set j (⟨K, K + 1, K + 1 + 1, K + 1 + 1 + 1, y.against, y.strength⟩ : Rw))[j]? = some ⟨K, K + 1, K + 1 + 1, K + 1 + 1 + 1, y.against, y.strength⟩ := List.getElem?_set_self (by omega)
      obtain ⟨h7, g4⟩ := RL.setField h6 hx5 (i := 4) (v := .int .i64 (K + 1 + 1 + 1 + 1)) (x' := (⟨K, K + 1, K + 1 + 1, K + 1 + 1 + 1, K + 1 + 1 + 1 + 1, y.strength⟩ : Rw)) (by decide) rfl rfl
      rw [List.set_set] at h7
      have hx6 : (L.set j (⟨K, K + 1, K + 1 + 1, K + 1 + 1 + 1, K + 1 + 1 + 1 + 1, y.strength⟩ : Rw))[j]? = some ⟨K, K + 1, K + 1 + 1, K + 1 + 1 + 1, K + 1 + 1 + 1 + 1, y.strength⟩ := List.getElem?_set_self (by omega)
      obtain ⟨h8, g5⟩ := RL.setField h7 hx6 (i := 5) (v := .int .i64 (K + 1 + 1 + 1 + 1 + 1)) (x' := (⟨K, K + 1, K + 1 + 1, K + 1 + 1 + 1, K + 1 + 1 + 1 + 1, K + 1 + 1 + 1 + 1 + 1⟩ : Rw)) (by decide) rfl rfl
      rw [List.set_set] at h8
      have gf := fun o => (RL.main h2).frozenAt o
      obtain ⟨q0, f0⟩ : _ ∧ _ := RL.cell h2 hx1 (i := 0) (by decide) rfl
      obtain ⟨q1, f1⟩ : _ ∧ _ := RL.cell h2 hx1 (i := 1) (by decide) rfl
      obtain ⟨q2, f2⟩ : _ ∧ _ := RL.cell h2 hx1 (i := 2) (by decide) rfl
      obtain ⟨q3, f3⟩ : _ ∧ _ := RL.cell h2 hx1 (i := 3) (by decide) rfl
      obtain ⟨q4, f4⟩ : _ ∧ _ := RL.cell h2 hx1 (i := 4) (by decide) rfl
      obtain ⟨q5, f5⟩ : _ ∧ _ := RL.cell h2 hx1 (i := 5) (by decide) rfl
      have hcl := ((((((hC0.trans g0).trans g1).trans g2).trans g3).trans g4).trans g5)
      simp only [show rwRL.n = 6 from rfl, Nat.add_zero] at q0 f0 q1 f1 q2 f2 q3 f3 q4 f4 q5 f5 h8 hcl
      have hfin : L.set j (⟨K, K + 1, K + 1 + 1, K + 1 + 1 + 1, K + 1 + 1 + 1 + 1, K + 1 + 1 + 1 + 1 + 1⟩ : Rw) = mkd mkRw szRw l k (j + 1) := HS.out
      rw [hfin] at h8
      have HH := Lib.hid (And.intro h8 hcl)
      have HNE : Hid (mkAt szRw l k (j + 1) = K + 1 + 1 + 1 + 1 + 1 + 1) := by
        have := HN.out
        unfold Hid
        rw [this]
        simp only [szRw]
        omega
      clear h2 h3 h4 h5 h6 h7 h8 hx1 hx2 hx3 hx4 hx5 hx6 hfin HS HST hC0 hcl g0 g1 g2 g3 g4 g5 HN hll
      go_wp2
      go_roundw
      case rel => exact ⟨j + 1, by omega, by go_num, by rw [HNE.out], HH⟩
      case measure => simp [intOf]; omega
    · obtain rfl : j = l.length := by omega
      have := HST.out
      rw [mkd_all] at this
      have HR := Lib.hid this
      clear this HST
      rw [mkAt_all, hsum]
      go_wp2
      go_ret
      exact ⟨rfl, HR.out.1, HR.out.2⟩

set_option maxRecDepth 100000 in
set_option maxHeartbeats 8000000 in
theorem heldRowS_c (a : Option Addr) (c : Nat) (l : List Rw) (k : Int) (w : World) (h : Row w a (flat rwRL.f (mkGo mkRw szRw l k))) (hn : l.length ≤ 1048576) (hk : 0 ≤ k) (hk' : k ≤ 1000000000) :
    Calls Try.prog 44 #[.slice a l.length c, .int .i64 k] w fun e w' => e = .returned (.int .i64 (k + 6 * (l.length : Int))) ∧ w = w' := by
  have HH := Lib.hid h
  clear h
  have hsum := szRw_sum l
  go_enter Try.func44, Try.ntmps44
  go_wp2
  go_loop [1, 5] (fun q i => ∃ j : Nat, j ≤ l.length ∧ i = .int .i64 j ∧ q = .int .i64 (mkAt szRw l k j)) (fun _ i => l.length - (intOf i).toNat)
  case atStart => exact ⟨0, Nat.zero_le _, rfl, by rw [mkAt_zero]⟩
  case round =>
    obtain ⟨j, hj, rfl, rfl⟩ := hrel
    by_cases hlt : j < l.length
    · have hx0 : l[j]? = some l[j] := List.getElem?_eq_getElem hlt
      have hx1 : (mkGo mkRw szRw l k)[j]? = some (mkRw l[j] (mkAt szRw l k j)) := mkGo_get mkRw szRw k hx0
      have HN : Hid (mkAt szRw l k (j + 1) = mkAt szRw l k j + szRw l[j]) := mkAt_succ szRw k hx0
      have hb1 := mkAt_le szRw szRw_pos l k j
      have hb2 := mkAt_le szRw szRw_pos l k (j + 1)
      rw [HN.out] at hb2
      obtain ⟨y, hy⟩ : ∃ y, y = l[j] := ⟨_, rfl⟩
      obtain ⟨K, hK⟩ : ∃ K, K = mkAt szRw l k j := ⟨_, rfl⟩
      rw [← hK] at HN hx1 hb1 hb2 ⊢
      rw [← hy] at HN hx1 hb2
      clear hy hK hx0
      simp only [szRw] at hb2
      obtain ⟨b, off, ha, hb, c0, c1, c2, c3, c4, c5⟩ := rw_at HH.out hx1
      subst ha
      simp only [mkRw] at c0 c1 c2 c3 c4 c5
      have HNE : Hid (mkAt szRw l k (j + 1) = K + 1 + 1 + 1 + 1 + 1 + 1) := by
        have := HN.out
        unfold Hid
        rw [this]
        simp only [szRw]
        omega
      clear hx1 HN
      go_wp2
      go_round
      case rel => exact ⟨j + 1, by omega, by go_num, by rw [HNE.out]⟩
      case measure => simp [intOf]; omega
    · obtain rfl : j = l.length := by omega
      rw [mkAt_all, hsum]
      go_wp2
      go_ret
      exact ⟨rfl, rfl⟩

end Go.Proofs.Ytbjgigdkbjabaaa
