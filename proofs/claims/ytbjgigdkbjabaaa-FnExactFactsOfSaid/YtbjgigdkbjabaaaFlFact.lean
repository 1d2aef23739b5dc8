/- FlFact: lists of flat structs (Fact): the law's own functions that copy, compare, mark and read them; the argument, opened. Each contract holds for every argument, under the premises that it states. -/
import Derived.Test.YtbjgigdkbjabaaaRowed
import Derived.Test.YtbjgigdkbjabaaaInts
import Derived.Test.YtbjgigdkbjabaaaHeld
import Derived.Deep.CutRange
import Derived.Deep.Slices
namespace Go.Proofs.Ytbjgigdkbjabaaa
set_option linter.unusedSimpArgs false
set_option linter.unusedVariables false
set_option linter.unnecessarySimpa false
open Go.RowKit Go.ChangeShapes Go.WideShapes Go.ChangeAt Go.Joins

structure Fc where
  kind : Int
  place : Int
  count : Int
  deriving DecidableEq
@[go_sem] def Fc.cells (x : Fc) : Array Value := #[.int .i64 x.kind, .int .i64 x.place, .int .i64 x.count]
@[go_sem] def Fc.val (x : Fc) : Value := .agg x.cells
def Fc.nil : Fc := ⟨0, 0, 0⟩
def fcRL : RL Fc where
  e := 95
  n := 3
  f := fun x => x.cells.toList
  m := 0
  g := fun _ => []
  hf := fun _ => rfl
  hg := fun _ => rfl
theorem fc_at {w : World} {a : Option Addr} {l : List Fc} (h : Row w a (flat fcRL.f l)) {k : Nat} {x : Fc} (hx : l[k]? = some x) :
    ∃ b off, a = some ⟨b, off, none⟩ ∧ b < w.heap.size ∧ (w.cell? ⟨b, off + k * 3, none⟩ = some (.int .i64 x.kind) ∧ w.cell? ⟨b, off + k * 3 + 1, none⟩ = some (.int .i64 x.place) ∧ w.cell? ⟨b, off + k * 3 + 2, none⟩ = some (.int .i64 x.count)) := by
  obtain ⟨b, off, ha, hb, hc⟩ := Row.item (f := fcRL.f) fcRL.hf h hx (by decide)
  have key : ∀ j v, j < 3 → (fcRL.f x)[j]? = some v → w.cell? ⟨b, off + k * 3 + j, none⟩ = some v := fun j v hj hv => by
    have := hc j v hj hv
    rw [show off + k * 3 + j = off + (k * fcRL.n + j) by rw [show fcRL.n = 3 from rfl]; omega]
    exact this
  exact ⟨b, off, ha, hb, key 0 _ (by omega) rfl, key 1 _ (by omega) rfl, key 2 _ (by omega) rfl⟩
theorem fc_row {w : World} {lo hi c : Nat} {ad : Option Addr} {l : List Fc} (h : PcsP lo hi (fcRL.pcs ad c l) w) : Row w ad (flat fcRL.f l) := own_row (RL.main h)

theorem fc_pcs {w : World} {base c : Nat} {ad : Option Addr} {l : List Fc} (h : w.ownsRow base 95 3 (.slice ad l.length c) l.length (flat fcRL.f l)) : Pcs w base (fcRL.pcs ad c l) := by
  have hg : flat fcRL.g l = [] := by
    clear h
    induction l with
    | nil => rfl
    | cons x l ih => rw [flat, ih]; rfl
  unfold RL.pcs
  rw [hg]
  refine ⟨fun q hq => ?_, List.pairwise_singleton _ _⟩
  obtain rfl := List.mem_singleton.1 hq
  exact h
theorem infoFc : (Try.prog.info? 95).map (fun i => (i.zero, i.size, i.bytes)) = some (some (.agg #[.int .i64 0, .int .i64 0, .int .i64 0]), 3, 24) := by kernel_rfl
theorem info_partsFc {e : TypeId} {z : Value} {size bytes : Nat} (h : (Try.prog.info? e).map (fun i => (i.zero, i.size, i.bytes)) = some (some z, size, bytes)) :
    ∃ i, Try.prog.info? e = some i ∧ i.zero = some z ∧ i.size = size ∧ i.bytes = bytes := by
  cases hi : Try.prog.info? e with
  | none => rw [hi] at h; cases h
  | some i =>
    rw [hi] at h
    simp only [Option.map_some, Option.some.injEq, Prod.mk.injEq] at h
    exact ⟨i, rfl, h.1, h.2.1, h.2.2⟩

theorem szFactS_c (a : Option Addr) (n c : Nat) (left : Int) (w : World) (hl : 0 ≤ left) (hl' : left ≤ 1048576) (hm : n ≤ maxLen) :
    Calls Try.prog 11 #[.slice a n c, .int .i64 left] w fun e w' => e = .returned (.int .i64 (szI left n)) ∧ w = w' := by
  unfold maxLen at hm
  by_cases h : left < n
  · have hs : szI left n = -1 := by simp [szI, h]
    have HS := Lib.hid hs
    clear hs
    go_enter Try.func11, Try.ntmps11
    go_wp2
    go_ret
    exact ⟨by rw [HS.out]; rfl, rfl⟩
  · have hs : szI left n = left - n := by simp [szI, h]
    have HS := Lib.hid hs
    clear hs
    go_enter Try.func11, Try.ntmps11
    go_wp2
    go_ret
    exact ⟨by rw [HS.out]; rfl, rfl⟩

set_option maxHeartbeats 2000000 in
theorem toFact_c (x : Fc) (w : World) : Calls Try.prog 59 #[x.val] w fun e w' => e = .returned x.val ∧ Below w.heap.size w w' := by
  go_enter Try.func59, Try.ntmps59
  go_wp2
  refine bodyPost_ret (v := x.val) (by simp [results, Try.results59, go_sem, Fc.val, Fc.cells]) rfl ⟨rfl, below_alloc3 _ _ _ _⟩

/-- a list of the call's own, and a frame -/
def FcRes (w : World) (xs : List Fc) (e : Ending) (w' : World) : Prop := ∃ (a : Option Addr) (c : Nat), e = .returned (.slice a xs.length c) ∧ Pcs w' w.heap.size (fcRL.pcs a c xs) ∧ Below w.heap.size w w'
def Fc.pick (l : List Fc) (i : Nat) : Fc := l.getD i Fc.nil
theorem Fc.pick_all (l : List Fc) : (List.range l.length).map (Fc.pick l) = l := by
  apply List.ext_getElem
  · simp
  · intro i h1 h2
    simp [Fc.pick, h2]
set_option maxRecDepth 100000 in
set_option maxHeartbeats 8000000 in
theorem toFactS_c (l : List Fc) (a : Option Addr) (c : Nat) (w : World) (h : Row w a (flat fcRL.f l)) (hm : l.length ≤ 1048576) :
    Calls Try.prog 15 #[.slice a l.length c] w (FcRes w l) := by
  obtain ⟨i0, hi, hz0, hz1, hz2⟩ := info_partsFc infoFc
  have HK := Lib.hid h
  clear h
  go_enter Try.func15, Try.ntmps15
  go_wp2_with (at_make; refine wpList_make_full _ rfl _ _ 36 rfl w.heap.size 95 i0 (.agg #[.int .i64 0, .int .i64 0, .int .i64 0]) 3 Try.underlying36 hi hz0 hz1 _ _ _ _ l.length rfl rfl rfl rfl ?c1 ?c2 ?c3 ?_)
  case c1 => rw [hz2]; omega
  case c2 => unfold maxLen; omega
  case c3 => exact Nat.le_refl _
  intro w1 hown hgr
  have hb1 : Below w.heap.size w w1 := (Below.refl _ _).grown hgr (Nat.le_refl _) (fun k h => by cases h)
  have hmz : (madeCells #[.int .i64 0, .int .i64 0, .int .i64 0] (l.length * 3)).toList = flat fcRL.f (List.replicate l.length Fc.nil) := made_flat fcRL.hf (by decide) #[.int .i64 0, .int .i64 0, .int .i64 0] Fc.nil rfl l.length
  rw [hmz] at hown
  have h0 : PcsP w.heap.size w1.heap.size (fcRL.pcs (some ⟨w.heap.size, 0, none⟩) l.length (over (Fc.pick l) 0 (List.replicate l.length Fc.nil))) w1 := by
    rw [over_zero]
    refine (fc_pcs ?_).mk'
    rw [List.length_replicate]
    exact hown
  have HST0 := Lib.hid (And.intro h0 hb1)
  clear hz0 hz1 hz2 hgr hown hb1 h0 hi hmz
  go_wp2
  go_loopw [4] (fun i wr => ∃ (j : Nat), i = .int .i64 j ∧ j ≤ l.length ∧ Hid (PcsP w.heap.size w1.heap.size (fcRL.pcs (some ⟨w.heap.size, 0, none⟩) l.length (over (Fc.pick l) j (List.replicate l.length Fc.nil))) wr ∧ Below w.heap.size w wr)) (fun i _ => l.length - (intOf i).toNat)
  case atStart => exact ⟨0, rfl, Nat.zero_le _, HST0⟩
  case round =>
    clear HST0
    obtain ⟨j, rfl, hj, HST⟩ := hrel
    by_cases hlt : j < l.length
    · obtain ⟨b, off, ha, hb, c0, c1, c2⟩ := fc_at (HK.out.below HST.out.2 (Nat.le_refl _)) (k := j) (x := l[j]) (by simp [hlt])
      subst ha
      have HS : Hid ((over (Fc.pick l) j (List.replicate l.length Fc.nil)).set j (Fc.pick l j) = over (Fc.pick l) (j + 1) (List.replicate l.length Fc.nil)) := over_set (Fc.pick l) (by simpa using hlt)
      have hx1 : (over (Fc.pick l) j (List.replicate l.length Fc.nil))[j]? = some Fc.nil := by rw [over_get (Fc.pick l) (by simpa using hlt)]; simp [hlt]
      have HLL : Hid ((over (Fc.pick l) j (List.replicate l.length Fc.nil)).length = l.length) := by unfold Hid; rw [over_len (Fc.pick l) (by simpa using hj), List.length_replicate]
      have hpk : Fc.pick l j = l[j] := by simp [Fc.pick, hlt]
      rw [hpk] at HS
      obtain ⟨y, hy⟩ : ∃ y, y = l[j] := ⟨_, rfl⟩
      rw [← hy] at c0 c1 c2 HS
      obtain ⟨L, hL⟩ : ∃ L, L = over (Fc.pick l) j (List.replicate l.length Fc.nil) := ⟨_, rfl⟩
      rw [← hL] at HS HLL hx1 HST
      clear hy hL hpk
      go_wp2_with fail
      refine (toFact_c y _).mono ?_
      rintro e w2 ⟨rfl, hb2⟩
      have h2 := HST.out.1.below hb2
      have HB2 := Lib.hid (below_next HST.out.2 hb2)
      have hll := HLL.out
      have hpl : 0 < L.length := by omega
      obtain ⟨h3, g0⟩ := RL.setField h2 hx1 (i := 0) (v := .int .i64 y.kind) (x' := (⟨y.kind, 0, 0⟩ : Fc)) (by decide) rfl rfl
      have hx2 : (L.set j (⟨y.kind, 0, 0⟩ : Fc))[j]? = some ⟨y.kind, 0, 0⟩ := List.getElem?_set_self (by omega)
      obtain ⟨h4, g1⟩ := RL.setField h3 hx2 (i := 1) (v := .int .i64 y.place) (x' := (⟨y.kind, y.place, 0⟩ : Fc)) (by decide) rfl rfl
      rw [List.set_set] at h4
      have hx3 : (L.set j (⟨y.kind, y.place, 0⟩ : Fc))[j]? = some ⟨y.kind, y.place, 0⟩ := List.getElem?_set_self (by omega)
      obtain ⟨h5, g2⟩ := RL.setField h4 hx3 (i := 2) (v := .int .i64 y.count) (x' := (⟨y.kind, y.place, y.count⟩ : Fc)) (by decide) rfl rfl
      rw [List.set_set] at h5
      have gf := fun o => (RL.main h2).frozenAt o
      obtain ⟨q0, f0⟩ : _ ∧ _ := RL.cell h2 hx1 (i := 0) (by decide) rfl
      obtain ⟨q1, f1⟩ : _ ∧ _ := RL.cell h2 hx1 (i := 1) (by decide) rfl
      obtain ⟨q2, f2⟩ : _ ∧ _ := RL.cell h2 hx1 (i := 2) (by decide) rfl
      simp only [show fcRL.n = 3 from rfl, Nat.add_zero] at q0 f0 q1 f1 q2 f2 h5
      have hfin : L.set j (⟨y.kind, y.place, y.count⟩ : Fc) = over (Fc.pick l) (j + 1) (List.replicate l.length Fc.nil) := HS.out
      rw [hfin] at h5
      have HBZ : Below w.heap.size w (((w2.setCell ⟨w.heap.size, j * 3, none⟩ (.int .i64 y.kind)).setCell ⟨w.heap.size, j * 3 + 1, none⟩ (.int .i64 y.place)).setCell ⟨w.heap.size, j * 3 + 2, none⟩ (.int .i64 y.count)) := by have k0 := HB2.out; repeat (first | (with_reducible exact k0) | ((with_reducible refine Below.setCell ?_ ?_ _); rotate_left; (simp <;> omega)))
      have HH := Lib.hid (And.intro h5 HBZ)
      clear h2 h3 h4 h5 hx1 hx2 hx3 g0 g1 g2 hfin HS HST hb2 HBZ c0 c1 c2
      go_wp2
      go_roundw
      case rel => exact ⟨j + 1, by go_num, by omega, HH⟩
      case measure => simp [intOf]; omega
    · obtain rfl : j = l.length := by omega
      have hov : over (Fc.pick l) l.length (List.replicate l.length Fc.nil) = l := by
        have := over_all (Fc.pick l) (List.replicate l.length Fc.nil)
        rw [List.length_replicate] at this
        rw [this, Fc.pick_all]
      have h1 := HST.out.1
      rw [hov] at h1
      have HR := Lib.hid (And.intro h1.1 HST.out.2)
      clear h1 hov HST
      go_wp2
      go_ret
      exact ⟨_, l.length, rfl, HR.out.1, HR.out.2⟩


set_option maxHeartbeats 4000000 in
theorem eqFact_c (x : Fc) (w : World) : Calls Try.prog 64 #[x.val, x.val] w fun e w' => e = .returned (.bool true) ∧ Below w.heap.size w w' := by
  go_enter Try.func64, Try.ntmps64
  go_wp2
  go_ret
  exact ⟨rfl, below_alloc2 _ _ _⟩

set_option maxRecDepth 100000 in
set_option maxHeartbeats 4000000 in
theorem eqFactS_c (l : List Fc) (a b : Option Addr) (c d : Nat) (w : World) (hl : Row w a (flat fcRL.f l)) (hm : Row w b (flat fcRL.f l)) (hn : l.length ≤ 1048576) :
    Calls Try.prog 18 #[.slice a l.length c, .slice b l.length d] w fun e w' => e = .returned (.bool true) ∧ Below w.heap.size w w' := by
  have HL := Lib.hid hl
  have HM := Lib.hid hm
  clear hl hm
  go_enter Try.func18, Try.ntmps18
  go_wp2_with fail
  go_loopw [5] (fun i wr => ∃ (j : Nat), i = .int .i64 j ∧ j ≤ l.length ∧ Hid (Below w.heap.size w wr)) (fun i _ => l.length - (intOf i).toNat)
  case atStart => exact ⟨0, rfl, Nat.zero_le _, Lib.hid (Below.refl _ _)⟩
  case round =>
    obtain ⟨j, rfl, hj, HB⟩ := hrel
    by_cases hlt : j < l.length
    · obtain ⟨ab, ao, ha, hab, hA⟩ := fc_at (HL.out.below HB.out (Nat.le_refl _)) (k := j) (x := l[j]) (by simp [hlt])
      obtain ⟨bb, bo, hb, hbb, hB⟩ := fc_at (HM.out.below HB.out (Nat.le_refl _)) (k := j) (x := l[j]) (by simp [hlt])
      subst ha hb
      obtain ⟨x, hx⟩ : ∃ y, y = l[j] := ⟨_, rfl⟩
      rw [← hx] at hA hB
      clear hx
      have HAB : Hid (∀ W, Below wr.heap.size wr W → (W.cell? ⟨ab, ao + j * 3, none⟩ = some (.int .i64 x.kind) ∧ W.cell? ⟨ab, ao + j * 3 + 1, none⟩ = some (.int .i64 x.place) ∧ W.cell? ⟨ab, ao + j * 3 + 2, none⟩ = some (.int .i64 x.count)) ∧ (W.cell? ⟨bb, bo + j * 3, none⟩ = some (.int .i64 x.kind) ∧ W.cell? ⟨bb, bo + j * 3 + 1, none⟩ = some (.int .i64 x.place) ∧ W.cell? ⟨bb, bo + j * 3 + 2, none⟩ = some (.int .i64 x.count))) := fun W hW => ⟨⟨(hW.cell (show (Addr.mk _ _ none).block < _ from hab)).trans hA.1, (hW.cell (show (Addr.mk _ _ none).block < _ from hab)).trans hA.2.1, (hW.cell (show (Addr.mk _ _ none).block < _ from hab)).trans hA.2.2⟩, ⟨(hW.cell (show (Addr.mk _ _ none).block < _ from hbb)).trans hB.1, (hW.cell (show (Addr.mk _ _ none).block < _ from hbb)).trans hB.2.1, (hW.cell (show (Addr.mk _ _ none).block < _ from hbb)).trans hB.2.2⟩⟩
      go_upto_region 6 with fail
      refine heldH (S := fun W => (W.cell? ⟨ab, ao + j * 3, none⟩ = some (.int .i64 x.kind) ∧ W.cell? ⟨ab, ao + j * 3 + 1, none⟩ = some (.int .i64 x.place) ∧ W.cell? ⟨ab, ao + j * 3 + 2, none⟩ = some (.int .i64 x.count)) ∧ (W.cell? ⟨bb, bo + j * 3, none⟩ = some (.int .i64 x.kind) ∧ W.cell? ⟨bb, bo + j * 3 + 1, none⟩ = some (.int .i64 x.place) ∧ W.cell? ⟨bb, bo + j * 3 + 2, none⟩ = some (.int .i64 x.count))) (n := 10) (listed := #[false, false, false, false, false, false, false, false, false, false]) (by kernel_rfl) (by rfl) (by rfl) ?_ (fun hHeld => ?_)
      (focus ((try dsimp only); (first | done | ((first | exact HAB.out _ HB2.out | exact HAB.out _ (Below.refl _ _).drew); done))))
      (refine takeH (i := 0) (v := ?_) (by decide +kernel) (by decide +kernel) (by kernel_rfl) (by rfl) (by exact fun _ _ _ h => h) (by rfl) ?_ (by assumption) ?_); rotate_left; (focus (intro w hSw; (try dsimp only at hSw); go_simp; (try with_reducible rfl); done)); (try simp only [Act.put, List.setIfInBounds_toArray, List.set_cons_zero, List.set_cons_succ])
      (refine takeH (i := 1) (v := ?_) (by decide +kernel) (by decide +kernel) (by kernel_rfl) (by rfl) (by exact fun _ _ _ h => h) (by rfl) ?_ (by assumption) ?_); rotate_left; (focus (intro w hSw; (try dsimp only at hSw); go_simp; (try with_reducible rfl); done)); (try simp only [Act.put, List.setIfInBounds_toArray, List.set_cons_zero, List.set_cons_succ])
      (refine takeH (i := 2) (v := ?_) (by decide +kernel) (by decide +kernel) (by kernel_rfl) (by rfl) (by exact fun _ _ _ h => h) (by rfl) ?_ (by assumption) ?_); rotate_left; (focus (intro w hSw; (try dsimp only at hSw); go_simp; (try with_reducible rfl); done)); (try simp only [Act.put, List.setIfInBounds_toArray, List.set_cons_zero, List.set_cons_succ])
      (refine takeH (i := 3) (v := ?_) (by decide +kernel) (by decide +kernel) (by kernel_rfl) (by rfl) (by exact fun _ _ _ h => h) (by rfl) ?_ (by assumption) ?_); rotate_left; (focus (intro w hSw; (try dsimp only at hSw); go_simp; (try with_reducible rfl); done)); (try simp only [Act.put, List.setIfInBounds_toArray, List.set_cons_zero, List.set_cons_succ])
      (refine takeH (i := 4) (v := ?_) (by decide +kernel) (by decide +kernel) (by kernel_rfl) (by rfl) (by exact fun _ _ _ h => h) (by rfl) ?_ (by assumption) ?_); rotate_left; (focus (intro w hSw; (try dsimp only at hSw); go_simp; (try with_reducible rfl); done)); (try simp only [Act.put, List.setIfInBounds_toArray, List.set_cons_zero, List.set_cons_succ])
      (refine takeH (i := 5) (v := ?_) (by decide +kernel) (by decide +kernel) (by kernel_rfl) (by rfl) (by exact fun _ _ _ h => h) (by rfl) ?_ (by assumption) ?_); rotate_left; (focus (intro w hSw; (try dsimp only at hSw); go_simp; (try with_reducible rfl); done)); (try simp only [Act.put, List.setIfInBounds_toArray, List.set_cons_zero, List.set_cons_succ])
      (refine takeH (i := 6) (v := ?_) (by decide +kernel) (by decide +kernel) (by kernel_rfl) (by rfl) (by exact fun _ _ _ h => h) (by rfl) ?_ (by assumption) ?_); rotate_left; (focus (intro w hSw; (try dsimp only at hSw); go_simp; (try with_reducible rfl); done)); (try simp only [Act.put, List.setIfInBounds_toArray, List.set_cons_zero, List.set_cons_succ])
      (refine takeH (i := 7) (v := ?_) (by decide +kernel) (by decide +kernel) (by kernel_rfl) (by rfl) (by exact fun _ _ _ h => h) (by rfl) ?_ (by assumption) ?_); rotate_left; (focus (intro w hSw; (try dsimp only at hSw); go_simp; (try with_reducible rfl); done)); (try simp only [Act.put, List.setIfInBounds_toArray, List.set_cons_zero, List.set_cons_succ])
      refine nextH (i := 8) (by decide +kernel) (by rfl) (by rfl) (fun K hK => ?_)
      go_simp
      (go_at_call 64; (refine (eqFact_c x _).mono ?_); (rintro e w2 ⟨rfl, hb2⟩); (have HB2 := Lib.hid (below_next (Below.refl wr.heap.size wr).drew hb2)))
      refine hK.out _ _ ?_ (fun hHeld' => ?_)
      (focus ((try dsimp only); (first | done | ((first | exact HAB.out _ HB2.out | exact HAB.out _ (Below.refl _ _).drew); done))))
      clear hK K hHeld
      have hHeld := hHeld'
      clear hHeld'
      (try simp only [Act.put, List.setIfInBounds_toArray, List.set_cons_zero, List.set_cons_succ])
      (refine takeH (i := 9) (v := ?_) (by decide +kernel) (by decide +kernel) (by kernel_rfl) (by rfl) (by exact fun _ _ _ h => h) (by rfl) ?_ (by assumption) ?_); rotate_left; (focus (intro w hSw; (try dsimp only at hSw); go_simp; (try with_reducible rfl); done)); (try simp only [Act.put, List.setIfInBounds_toArray, List.set_cons_zero, List.set_cons_succ])
      refine wpAnyH_done (by decide +kernel) ?_ _
      have HB3 := Lib.hid (below_next HB.out HB2.out)
      clear hHeld hb2 HB HAB hA hB HB2
      go_wp2
      go_roundw
      case rel => exact ⟨j + 1, by go_num, by omega, HB3⟩
      case measure => simp [intOf]; omega
    · go_wp2
      go_ret
      exact ⟨rfl, HB.out⟩

def mkFc (x : Fc) (k : Int) : Fc := ⟨k, k + 1, k + 1 + 1⟩
def szFc (x : Fc) : Int := 3
theorem szFc_pos (x : Fc) : 0 ≤ szFc x := by unfold szFc; omega
theorem szFc_sum : ∀ l : List Fc, mkSum szFc l = 3 * (l.length : Int)
  | [] => by simp [mkSum]
  | x :: l => by rw [mkSum, szFc_sum l, szFc, List.length_cons]; omega
set_option maxRecDepth 100000 in
set_option maxHeartbeats 8000000 in
theorem markFactS_c (lo hi : Nat) (ad : Option Addr) (c : Nat) (l : List Fc) (k : Int) (w : World) (h : PcsP lo hi (fcRL.pcs ad c l) w) (hn : l.length ≤ 1048576) (hk : 0 ≤ k) (hk' : k ≤ 1000000000) :
    Calls Try.prog 20 #[.slice ad l.length c, .int .i64 k] w fun e w' => e = .returned (.int .i64 (k + 3 * (l.length : Int))) ∧ PcsP lo hi (fcRL.pcs ad c (mkGo mkFc szFc l k)) w' ∧ Chg lo hi w w' := by
  have HH := Lib.hid h
  clear h
  have hsum := szFc_sum l
  go_enter Try.func20, Try.ntmps20
  go_wp2
  go_loopw [1, 5] (fun q i wr => ∃ j : Nat, j ≤ l.length ∧ i = .int .i64 j ∧ q = .int .i64 (mkAt szFc l k j) ∧ Hid (PcsP lo hi (fcRL.pcs ad c (mkd mkFc szFc l k j)) wr ∧ Chg lo hi w wr)) (fun _ i _ => l.length - (intOf i).toNat)
  case atStart => exact ⟨0, Nat.zero_le _, rfl, by rw [mkAt_zero], by unfold Hid; rw [mkd_zero]; exact ⟨HH.out, Chg.refl _ _ _⟩⟩
  case round =>
    obtain ⟨j, hj, rfl, rfl, HST⟩ := hrel
    clear HH
    by_cases hlt : j < l.length
    · have hx0 : l[j]? = some l[j] := List.getElem?_eq_getElem hlt
      have hx1 : (mkd mkFc szFc l k j)[j]? = some l[j] := by rw [mkd_get mkFc szFc k hlt]; exact hx0
      have HN : Hid (mkAt szFc l k (j + 1) = mkAt szFc l k j + szFc l[j]) := mkAt_succ szFc k hx0
      have HS : Hid ((mkd mkFc szFc l k j).set j (mkFc l[j] (mkAt szFc l k j)) = mkd mkFc szFc l k (j + 1)) := mkd_set mkFc szFc k hx0
      have hb1 := mkAt_le szFc szFc_pos l k j
      have hb2 := mkAt_le szFc szFc_pos l k (j + 1)
      have HLL : Hid ((mkd mkFc szFc l k j).length = l.length) := mkd_len mkFc szFc l k j
      rw [HN.out] at hb2
      obtain ⟨y, hy⟩ : ∃ y, y = l[j] := ⟨_, rfl⟩
      obtain ⟨K, hK⟩ : ∃ K, K = mkAt szFc l k j := ⟨_, rfl⟩
      obtain ⟨L, hL⟩ : ∃ L, L = mkd mkFc szFc l k j := ⟨_, rfl⟩
      rw [← hK] at HN HS hb1 hb2 ⊢
      rw [← hy] at HN HS hx1 hb2
      rw [← hL] at HS hx1 HST HLL
      clear hy hK hL hx0
      simp only [szFc] at hb2
      obtain ⟨h2, hC0⟩ := HST.out
      have hll := HLL.out
      obtain ⟨g, hg, hg1, hg2⟩ := RL.at h2 (by omega)
      subst hg
      obtain ⟨h3, g0⟩ := RL.setField h2 hx1 (i := 0) (v := .int .i64 (K)) (x' := (⟨K, y.place, y.count⟩ : Fc)) (by decide) rfl rfl
      have hx2 : (L.set j (⟨K, y.place, y.count⟩ : Fc))[j]? = some ⟨K, y.place, y.count⟩ := List.getElem?_set_self (by omega)
      obtain ⟨h4, g1⟩ := RL.setField h3 hx2 (i := 1) (v := .int .i64 (K + 1)) (x' := (⟨K, K + 1, y.count⟩ : Fc)) (by decide) rfl rfl
      rw [List.set_set] at h4
      have hx3 : (L.set j (⟨K, K + 1, y.count⟩ : Fc))[j]? = some ⟨K, K + 1, y.count⟩ := List.getElem?_set_self (by omega)
      obtain ⟨h5, g2⟩ := RL.setField h4 hx3 (i := 2) (v := .int .i64 (K + 1 + 1)) (x' := (⟨K, K + 1, K + 1 + 1⟩ : Fc)) (by decide) rfl rfl
      rw [List.set_set] at h5
      have gf := fun o => (RL.main h2).frozenAt o
      obtain ⟨q0, f0⟩ : _ ∧ _ := RL.cell h2 hx1 (i := 0) (by decide) rfl
      obtain ⟨q1, f1⟩ : _ ∧ _ := RL.cell h2 hx1 (i := 1) (by decide) rfl
      obtain ⟨q2, f2⟩ : _ ∧ _ := RL.cell h2 hx1 (i := 2) (by decide) rfl
      have hcl := (((hC0.trans g0).trans g1).trans g2)
      simp only [show fcRL.n = 3 from rfl, Nat.add_zero] at q0 f0 q1 f1 q2 f2 h5 hcl
      have hfin : L.set j (⟨K, K + 1, K + 1 + 1⟩ : Fc) = mkd mkFc szFc l k (j + 1) := HS.out
      rw [hfin] at h5
      have HH := Lib.hid (And.intro h5 hcl)
      have HNE : Hid (mkAt szFc l k (j + 1) = K + 1 + 1 + 1) := by
        have := HN.out
        unfold Hid
        rw [this]
        simp only [szFc]
        omega
      clear h2 h3 h4 h5 hx1 hx2 hx3 hfin HS HST hC0 hcl g0 g1 g2 HN hll
      go_wp2
      go_roundw
      case rel => exact ⟨j + 1, by omega, by go_num, by rw [HNE.out], HH⟩
      case measure => simp [intOf]; omega
    · obtain rfl : j = l.length := by omega
      have := HST.out
      rw [mkd_all] at this
      have HR := Lib.hid this
      clear this HST
      rw [mkAt_all, hsum]
      go_wp2
      go_ret
      exact ⟨rfl, HR.out.1, HR.out.2⟩

set_option maxRecDepth 100000 in
set_option maxHeartbeats 8000000 in
theorem heldFactS_c (a : Option Addr) (c : Nat) (l : List Fc) (k : Int) (w : World) (h : Row w a (flat fcRL.f (mkGo mkFc szFc l k))) (hn : l.length ≤ 1048576) (hk : 0 ≤ k) (hk' : k ≤ 1000000000) :
    Calls Try.prog 24 #[.slice a l.length c, .int .i64 k] w fun e w' => e = .returned (.int .i64 (k + 3 * (l.length : Int))) ∧ w = w' := by
  have HH := Lib.hid h
  clear h
  have hsum := szFc_sum l
  go_enter Try.func24, Try.ntmps24
  go_wp2
  go_loop [1, 5] (fun q i => ∃ j : Nat, j ≤ l.length ∧ i = .int .i64 j ∧ q = .int .i64 (mkAt szFc l k j)) (fun _ i => l.length - (intOf i).toNat)
  case atStart => exact ⟨0, Nat.zero_le _, rfl, by rw [mkAt_zero]⟩
  case round =>
    obtain ⟨j, hj, rfl, rfl⟩ := hrel
    by_cases hlt : j < l.length
    · have hx0 : l[j]? = some l[j] := List.getElem?_eq_getElem hlt
      have hx1 : (mkGo mkFc szFc l k)[j]? = some (mkFc l[j] (mkAt szFc l k j)) := mkGo_get mkFc szFc k hx0
      have HN : Hid (mkAt szFc l k (j + 1) = mkAt szFc l k j + szFc l[j]) := mkAt_succ szFc k hx0
      have hb1 := mkAt_le szFc szFc_pos l k j
      have hb2 := mkAt_le szFc szFc_pos l k (j + 1)
      rw [HN.out] at hb2
      obtain ⟨y, hy⟩ : ∃ y, y = l[j] := ⟨_, rfl⟩
      obtain ⟨K, hK⟩ : ∃ K, K = mkAt szFc l k j := ⟨_, rfl⟩
      rw [← hK] at HN hx1 hb1 hb2 ⊢
      rw [← hy] at HN hx1 hb2
      clear hy hK hx0
      simp only [szFc] at hb2
      obtain ⟨b, off, ha, hb, c0, c1, c2⟩ := fc_at HH.out hx1
      subst ha
      simp only [mkFc] at c0 c1 c2
      have HNE : Hid (mkAt szFc l k (j + 1) = K + 1 + 1 + 1) := by
        have := HN.out
        unfold Hid
        rw [this]
        simp only [szFc]
        omega
      clear hx1 HN
      go_wp2
      go_round
      case rel => exact ⟨j + 1, by omega, by go_num, by rw [HNE.out]⟩
      case measure => simp [intOf]; omega
    · obtain rfl : j = l.length := by omega
      rw [mkAt_all, hsum]
      go_wp2
      go_ret
      exact ⟨rfl, rfl⟩


/-! ### the law's argument, opened -/
theorem list_fc {α : Type} {cs : List α} (h : cs.length = 3) : ∃ a0 a1 a2, cs = [a0, a1, a2] := by
  match cs, h with
  | [a0, a1, a2], _ => exact ⟨a0, a1, a2, rfl⟩
def Fc.Rng (x : Fc) : Prop := I64 x.kind ∧ I64 x.place ∧ I64 x.count
set_option maxRecDepth 100000 in
theorem open_fc {H : Type} {enc : TypeId × Value → H} {W : World} {held : Bool} {fuel : Nat} {cs : List Value} {x : DataW H × List MemPlace}
    (h : DataW.trod enc Try.prog W 0 (fun _ => true) held fuel 98 cs = some x) : ∃ k : Fc, cs = fcRL.f k ∧ k.Rng := by
  obtain ⟨xs, n, _, _, hl, hxs, hf⟩ := DataW.trod_struct Try.underlying98 h
  have hc : Try.prog.cellsOf 98 = 3 := by kernel_rfl
  have ci : Try.prog.cellsOf 2 = 1 := by kernel_rfl
  have cb : Try.prog.cellsOf 4 = 1 := by kernel_rfl
  rw [hc] at hl
  obtain ⟨a0, a1, a2, rfl⟩ := list_fc hl
  obtain ⟨y0, y1, y2, rfl⟩ := list_fc (cs := xs) (by simpa using hxs)
  have f0 := hf 0 _ rfl
  have f1 := hf 1 _ rfl
  have f2 := hf 2 _ rfl
  simp [ci, cb] at f0 f1 f2
  obtain ⟨n0, e0, _, w0⟩ := DataW.trod_int Try.underlying2 f0
  obtain ⟨n1, e1, _, w1⟩ := DataW.trod_int Try.underlying2 f1
  obtain ⟨n2, e2, _, w2⟩ := DataW.trod_int Try.underlying2 f2
  simp at e0 e1 e2
  subst e0 e1 e2
  exact ⟨⟨n0, n1, n2⟩, rfl, ⟨I64_of_wf w0, I64_of_wf w1, I64_of_wf w2⟩⟩
set_option maxRecDepth 100000 in
theorem arg_fcs {H : Type} {enc : TypeId × Value → H} {W : World} {base : Nat} {v : Value} {d : DataW H} {q : List MemPlace}
    (hval : Value.okWide Try.prog W .any base 27 v) (h : DataW.Trod enc Try.prog W 0 (fun _ => true) true 27 v d q) :
    ∃ (a : Option Addr) (c : Nat) (l : List Fc), v = .slice a l.length c ∧ Row W a (flat fcRL.f l) ∧ l.length ≤ maxLen ∧ ∀ x ∈ l, x.Rng := by
  obtain ⟨a0, len, cap, rfl⟩ := okWide_slice Try.underlying27 hval
  obtain ⟨fuel, hf⟩ := h
  obtain ⟨l, a, c, hcs, hr, hm, hp⟩ := open_flats fcRL.hf (by decide) Fc.Rng (f := fcRL.f) Try.underlying27 (by kernel_rfl) (fun h => open_fc h) hf
  simp [Value.cells] at hcs
  obtain ⟨rfl, rfl, rfl⟩ := hcs
  exact ⟨_, _, l, rfl, hr, hm, hp⟩

end Go.Proofs.Ytbjgigdkbjabaaa
