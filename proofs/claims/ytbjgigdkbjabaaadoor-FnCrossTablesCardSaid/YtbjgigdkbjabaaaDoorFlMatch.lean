/- FlMatch: lists of flat structs (Match): the law's own functions that copy, compare, mark and read them; the argument, opened. Each contract holds for every argument, under the premises that it states. -/
import Derived.Test.YtbjgigdkbjabaaaDoorRowed
import Derived.Test.YtbjgigdkbjabaaaDoorInts
import Derived.Test.YtbjgigdkbjabaaaDoorHeld
import Derived.Deep.CutRange
import Derived.Deep.Slices
namespace Go.Proofs.YtbjgigdkbjabaaaDoor
set_option linter.unusedSimpArgs false
set_option linter.unusedVariables false
set_option linter.unnecessarySimpa false
open Go.RowKit Go.ChangeShapes Go.WideShapes Go.ChangeAt Go.Joins

structure Mt where
  a : Int
  b : Int
  score : Int
  forfeit : Bool
  deriving DecidableEq
@[go_sem] def Mt.cells (x : Mt) : Array Value := #[.int .i64 x.a, .int .i64 x.b, .int .i64 x.score, .bool x.forfeit]
@[go_sem] def Mt.val (x : Mt) : Value := .agg x.cells
def Mt.nil : Mt := ⟨0, 0, 0, false⟩
def mtRL : RL Mt where
  e := 45
  n := 4
  f := fun x => x.cells.toList
  m := 0
  g := fun _ => []
  hf := fun _ => rfl
  hg := fun _ => rfl
theorem mt_at {w : World} {a : Option Addr} {l : List Mt} (h : Row w a (flat mtRL.f l)) {k : Nat} {x : Mt} (hx : l[k]? = some x) :
    ∃ b off, a = some ⟨b, off, none⟩ ∧ b < w.heap.size ∧ (w.cell? ⟨b, off + k * 4, none⟩ = some (.int .i64 x.a) ∧ w.cell? ⟨b, off + k * 4 + 1, none⟩ = some (.int .i64 x.b) ∧ w.cell? ⟨b, off + k * 4 + 2, none⟩ = some (.int .i64 x.score) ∧ w.cell? ⟨b, off + k * 4 + 3, none⟩ = some (.bool x.forfeit)) := by
  obtain ⟨b, off, ha, hb, hc⟩ := Row.item (f := mtRL.f) mtRL.hf h hx (by decide)
  have key : ∀ j v, j < 4 → (mtRL.f x)[j]? = some v → w.cell? ⟨b, off + k * 4 + j, none⟩ = some v := fun j v hj hv => by
    have := hc j v hj hv
    rw [show off + k * 4 + j = off + (k * mtRL.n + j) by rw [show mtRL.n = 4 from rfl]; omega]
    exact this
  exact ⟨b, off, ha, hb, key 0 _ (by omega) rfl, key 1 _ (by omega) rfl, key 2 _ (by omega) rfl, key 3 _ (by omega) rfl⟩
theorem mt_row {w : World} {lo hi c : Nat} {ad : Option Addr} {l : List Mt} (h : PcsP lo hi (mtRL.pcs ad c l) w) : Row w ad (flat mtRL.f l) := own_row (RL.main h)

theorem mt_pcs {w : World} {base c : Nat} {ad : Option Addr} {l : List Mt} (h : w.ownsRow base 45 4 (.slice ad l.length c) l.length (flat mtRL.f l)) : Pcs w base (mtRL.pcs ad c l) := by
  have hg : flat mtRL.g l = [] := by
    clear h
    induction l with
    | nil => rfl
    | cons x l ih => rw [flat, ih]; rfl
  unfold RL.pcs
  rw [hg]
  refine ⟨fun q hq => ?_, List.pairwise_singleton _ _⟩
  obtain rfl := List.mem_singleton.1 hq
  exact h
theorem infoMt : (Tryd.prog.info? 45).map (fun i => (i.zero, i.size, i.bytes)) = some (some (.agg #[.int .i64 0, .int .i64 0, .int .i64 0, .bool false]), 4, 32) := by kernel_rfl
theorem info_partsMt {e : TypeId} {z : Value} {size bytes : Nat} (h : (Tryd.prog.info? e).map (fun i => (i.zero, i.size, i.bytes)) = some (some z, size, bytes)) :
    ∃ i, Tryd.prog.info? e = some i ∧ i.zero = some z ∧ i.size = size ∧ i.bytes = bytes := by
  cases hi : Tryd.prog.info? e with
  | none => rw [hi] at h; cases h
  | some i =>
    rw [hi] at h
    simp only [Option.map_some, Option.some.injEq, Prod.mk.injEq] at h
    exact ⟨i, rfl, h.1, h.2.1, h.2.2⟩

theorem szMatchS_c (a : Option Addr) (n c : Nat) (left : Int) (w : World) (hl : 0 ≤ left) (hl' : left ≤ 1048576) (hm : n ≤ maxLen) :
    Calls Tryd.prog 9 #[.slice a n c, .int .i64 left] w fun e w' => e = .returned (.int .i64 (szI left n)) ∧ w = w' := by
  unfold maxLen at hm
  by_cases h : left < n
  · have hs : szI left n = -1 := by simp [szI, h]
    have HS := Lib.hid hs
    clear hs
    go_enter Tryd.func9, Tryd.ntmps9
    go_wp2
    go_ret
    exact ⟨by rw [HS.out]; rfl, rfl⟩
  · have hs : szI left n = left - n := by simp [szI, h]
    have HS := Lib.hid hs
    clear hs
    go_enter Tryd.func9, Tryd.ntmps9
    go_wp2
    go_ret
    exact ⟨by rw [HS.out]; rfl, rfl⟩

set_option maxHeartbeats 2000000 in
theorem toMatch_c (x : Mt) (w : World) : Calls Tryd.prog 34 #[x.val] w fun e w' => e = .returned x.val ∧ Below w.heap.size w w' := by
  go_enter Tryd.func34, Tryd.ntmps34
  go_wp2
  refine bodyPost_ret (v := x.val) (by simp [results, Tryd.results34, go_sem, Mt.val, Mt.cells]) rfl ⟨rfl, below_alloc3 _ _ _ _⟩

/-- a list of the call's own, and a frame -/
def MtRes (w : World) (xs : List Mt) (e : Ending) (w' : World) : Prop := ∃ (a : Option Addr) (c : Nat), e = .returned (.slice a xs.length c) ∧ Pcs w' w.heap.size (mtRL.pcs a c xs) ∧ Below w.heap.size w w'
def Mt.pick (l : List Mt) (i : Nat) : Mt := l.getD i Mt.nil
theorem Mt.pick_all (l : List Mt) : (List.range l.length).map (Mt.pick l) = l := by
  apply List.ext_getElem
  · simp
  · intro i h1 h2
    simp [Mt.pick, h2]
set_option maxRecDepth 100000 in
set_option maxHeartbeats 8000000 in
theorem toMatchS_c (l : List Mt) (a : Option Addr) (c : Nat) (w : World) (h : Row w a (flat mtRL.f l)) (hm : l.length ≤ 1048576) :
    Calls Tryd.prog 11 #[.slice a l.length c] w (MtRes w l) := by
  obtain ⟨i0, hi, hz0, hz1, hz2⟩ := info_partsMt infoMt
  have HK := Lib.hid h
  clear h
  go_enter Tryd.func11, Tryd.ntmps11
  go_wp2_with (at_make; refine wpList_make_full _ rfl _ _ 33 rfl w.heap.size 45 i0 (.agg #[.int .i64 0, .int .i64 0, .int .i64 0, .bool false]) 4 Tryd.underlying33 hi hz0 hz1 _ _ _ _ l.length rfl rfl rfl rfl ?c1 ?c2 ?c3 ?_)
  case c1 => rw [hz2]; omega
  case c2 => unfold maxLen; omega
  case c3 => exact Nat.le_refl _
  intro w1 hown hgr
  have hb1 : Below w.heap.size w w1 := (Below.refl _ _).grown hgr (Nat.le_refl _) (fun k h => by cases h)
  have hmz : (madeCells #[.int .i64 0, .int .i64 0, .int .i64 0, .bool false] (l.length * 4)).toList = flat mtRL.f (List.replicate l.length Mt.nil) := made_flat mtRL.hf (by decide) #[.int .i64 0, .int .i64 0, .int .i64 0, .bool false] Mt.nil rfl l.length
  rw [hmz] at hown
  have h0 : PcsP w.heap.size w1.heap.size (mtRL.pcs (some ⟨w.heap.size, 0, none⟩) l.length (over (Mt.pick l) 0 (List.replicate l.length Mt.nil))) w1 := by
    rw [over_zero]
    refine (mt_pcs ?_).mk'
    rw [List.length_replicate]
    exact hown
  have HST0 := Lib.hid (And.intro h0 hb1)
  clear hz0 hz1 hz2 hgr hown hb1 h0 hi hmz
  go_wp2
  go_loopw [4] (fun i wr => ∃ (j : Nat), i = .int .i64 j ∧ j ≤ l.length ∧ Hid (PcsP w.heap.size w1.heap.size (mtRL.pcs (some ⟨w.heap.size, 0, none⟩) l.length (over (Mt.pick l) j (List.replicate l.length Mt.nil))) wr ∧ Below w.heap.size w wr)) (fun i _ => l.length - (intOf i).toNat)
  case atStart => exact ⟨0, rfl, Nat.zero_le _, HST0⟩
  case round =>
    clear HST0
    obtain ⟨j, rfl, hj, HST⟩ := hrel
    by_cases hlt : j < l.length
    · obtain ⟨b, off, ha, hb, c0, c1, c2, c3⟩ := mt_at (HK.out.below HST.out.2 (Nat.le_refl _)) (k := j) (x := l[j]) (by simp [hlt])
      subst ha
      have HS : Hid ((over (Mt.pick l) j (List.replicate l.length Mt.nil)).set j (Mt.pick l j) = over (Mt.pick l) (j + 1) (List.replicate l.length Mt.nil)) := over_set (Mt.pick l) (by simpa using hlt)
      have hx1 : (over (Mt.pick l) j (List.replicate l.length Mt.nil))[j]? = some Mt.nil := by rw [over_get (Mt.pick l) (by simpa using hlt)]; simp [hlt]
      have HLL : Hid ((over (Mt.pick l) j (List.replicate l.length Mt.nil)).length = l.length) := by unfold Hid; rw [over_len (Mt.pick l) (by simpa using hj), List.length_replicate]
      have hpk : Mt.pick l j = l[j] := by simp [Mt.pick, hlt]
      rw [hpk] at HS
      obtain ⟨y, hy⟩ : ∃ y, y = l[j] := ⟨_, rfl⟩
      rw [← hy] at c0 c1 c2 c3 HS
      obtain ⟨L, hL⟩ : ∃ L, L = over (Mt.pick l) j (List.replicate l.length Mt.nil) := ⟨_, rfl⟩
      rw [← hL] at HS HLL hx1 HST
      clear hy hL hpk
      go_wp2_with fail
      refine (toMatch_c y _).mono ?_
      rintro e w2 ⟨rfl, hb2⟩
      have h2 := HST.out.1.below hb2
      have HB2 := Lib.hid (below_next HST.out.2 hb2)
      have hll := HLL.out
      have hpl : 0 < L.length := by omega
      obtain ⟨h3, g0⟩ := RL.setField h2 hx1 (i := 0) (v := .int .i64 y.a) (x' := (⟨y.a, 0, 0, false⟩ : Mt)) (by decide) rfl rfl
      have hx2 : (L.set j (⟨y.a, 0, 0, false⟩ : Mt))[j]? = some ⟨y.a, 0, 0, false⟩ := List.getElem?_set_self (by omega)
      obtain ⟨h4, g1⟩ := RL.setField h3 hx2 (i := 1) (v := .int .i64 y.b) (x' := (⟨y.a, y.b, 0, false⟩ : Mt)) (by decide) rfl rfl
      rw [List.set_set] at h4
      have hx3 : (L.set j (⟨y.a, y.b, 0, false⟩ : Mt))[j]? = some ⟨y.a, y.b, 0, false⟩ := List.getElem?_set_self (by omega)
      obtain ⟨h5, g2⟩ := RL.setField h4 hx3 (i := 2) (v := .int .i64 y.score) (x' := (⟨y.a, y.b, y.score, false⟩ : Mt)) (by decide) rfl rfl
      rw [List.set_set] at h5
      have hx4 : (L.set j (⟨y.a, y.b, y.score, false⟩ : Mt))[j]? = some ⟨y.a, y.b, y.score, false⟩ := List.getElem?_set_self (by omega)
      obtain ⟨h6, g3⟩ := RL.setField h5 hx4 (i := 3) (v := .bool y.forfeit) (x' := (⟨y.a, y.b, y.score, y.forfeit⟩ : Mt)) (by decide) rfl rfl
      rw [List.set_set] at h6
      have gf := fun o => (RL.main h2).frozenAt o
      obtain ⟨q0, f0⟩ : _ ∧ _ := RL.cell h2 hx1 (i := 0) (by decide) rfl
      obtain ⟨q1, f1⟩ : _ ∧ _ := RL.cell h2 hx1 (i := 1) (by decide) rfl
      obtain ⟨q2, f2⟩ : _ ∧ _ := RL.cell h2 hx1 (i := 2) (by decide) rfl
      obtain ⟨q3, f3⟩ : _ ∧ _ := RL.cell h2 hx1 (i := 3) (by decide) rfl
      simp only [show mtRL.n = 4 from rfl, Nat.add_zero] at q0 f0 q1 f1 q2 f2 q3 f3 h6
      have hfin : L.set j (⟨y.a, y.b, y.score, y.forfeit⟩ : Mt) = over (Mt.pick l) (j + 1) (List.replicate l.length Mt.nil) := HS.out
      rw [hfin] at h6
      have HBZ : Below w.heap.size w ((((w2.setCell ⟨w.heap.size, j * 4, none⟩ (.int .i64 y.a)).setCell ⟨w.heap.size, j * 4 + 1, none⟩ (.int .i64 y.b)).setCell ⟨w.heap.size, j * 4 + 2, none⟩ (.int .i64 y.score)).setCell ⟨w.heap.size, j * 4 + 3, none⟩ (.bool y.forfeit)) := by have k0 := HB2.out; repeat (first | (with_reducible exact k0) | ((with_reducible refine Below.setCell ?_ ?_ _); rotate_left; (simp <;> omega)))
      have HH := Lib.hid (And.intro h6 HBZ)
      clear h2 h3 h4 h5 h6 hx1 hx2 hx3 hx4 g0 g1 g2 g3 hfin HS HST hb2 HBZ c0 c1 c2 c3
      go_wp2
      go_roundw
      case rel => exact ⟨j + 1, by go_num, by omega, HH⟩
      case measure => simp [intOf]; omega
    · obtain rfl : j = l.length := by omega
      have hov : over (Mt.pick l) l.length (List.replicate l.length Mt.nil) = l := by
        have := over_all (Mt.pick l) (List.replicate l.length Mt.nil)
        rw [List.length_replicate] at this
        rw [this, Mt.pick_all]
      have h1 := HST.out.1
      rw [hov] at h1
      have HR := Lib.hid (And.intro h1.1 HST.out.2)
      clear h1 hov HST
      go_wp2
      go_ret
      exact ⟨_, l.length, rfl, HR.out.1, HR.out.2⟩


set_option maxHeartbeats 4000000 in
theorem eqMatch_c (x : Mt) (w : World) : Calls Tryd.prog 38 #[x.val, x.val] w fun e w' => e = .returned (.bool true) ∧ Below w.heap.size w w' := by
  go_enter Tryd.func38, Tryd.ntmps38
  go_wp2
  go_ret
  exact ⟨rfl, below_alloc2 _ _ _⟩

set_option maxRecDepth 100000 in
set_option maxHeartbeats 4000000 in
theorem eqMatchS_c (l : List Mt) (a b : Option Addr) (c d : Nat) (w : World) (hl : Row w a (flat mtRL.f l)) (hm : Row w b (flat mtRL.f l)) (hn : l.length ≤ 1048576) :
    Calls Tryd.prog 14 #[.slice a l.length c, .slice b l.length d] w fun e w' => e = .returned (.bool true) ∧ Below w.heap.size w w' := by
  have HL := Lib.hid hl
  have HM := Lib.hid hm
  clear hl hm
  go_enter Tryd.func14, Tryd.ntmps14
  go_wp2_with fail
  go_loopw [5] (fun i wr => ∃ (j : Nat), i = .int .i64 j ∧ j ≤ l.length ∧ Hid (Below w.heap.size w wr)) (fun i _ => l.length - (intOf i).toNat)
  case atStart => exact ⟨0, rfl, Nat.zero_le _, Lib.hid (Below.refl _ _)⟩
  case round =>
    obtain ⟨j, rfl, hj, HB⟩ := hrel
    by_cases hlt : j < l.length
    · obtain ⟨ab, ao, ha, hab, hA⟩ := mt_at (HL.out.below HB.out (Nat.le_refl _)) (k := j) (x := l[j]) (by simp [hlt])
      obtain ⟨bb, bo, hb, hbb, hB⟩ := mt_at (HM.out.below HB.out (Nat.le_refl _)) (k := j) (x := l[j]) (by simp [hlt])
      subst ha hb
      obtain ⟨x, hx⟩ : ∃ y, y = l[j] := ⟨_, rfl⟩
      rw [← hx] at hA hB
      clear hx
      have HAB : Hid (∀ W, Below wr.heap.size wr W → (W.cell? ⟨ab, ao + j * 4, none⟩ = some (.int .i64 x.a) ∧ W.cell? ⟨ab, ao + j * 4 + 1, none⟩ = some (.int .i64 x.b) ∧ W.cell? ⟨ab, ao + j * 4 + 2, none⟩ = some (.int .i64 x.score) ∧ W.cell? ⟨ab, ao + j * 4 + 3, none⟩ = some (.bool x.forfeit)) ∧ (W.cell? ⟨bb, bo + j * 4, none⟩ = some (.int .i64 x.a) ∧ W.cell? ⟨bb, bo + j * 4 + 1, none⟩ = some (.int .i64 x.b) ∧ W.cell? ⟨bb, bo + j * 4 + 2, none⟩ = some (.int .i64 x.score) ∧ W.cell? ⟨bb, bo + j * 4 + 3, none⟩ = some (.bool x.forfeit))) := fun W hW => ⟨⟨(hW.cell (show (Addr.mk _ _ none).block < _ from hab)).trans hA.1, (hW.cell (show (Addr.mk _ _ none).block < _ from hab)).trans hA.2.1, (hW.cell (show (Addr.mk _ _ none).block < _ from hab)).trans hA.2.2.1, (hW.cell (show (Addr.mk _ _ none).block < _ from hab)).trans hA.2.2.2⟩, ⟨(hW.cell (show (Addr.mk _ _ none).block < _ from hbb)).trans hB.1, (hW.cell (show (Addr.mk _ _ none).block < _ from hbb)).trans hB.2.1, (hW.cell (show (Addr.mk _ _ none).block < _ from hbb)).trans hB.2.2.1, (hW.cell (show (Addr.mk _ _ none).block < _ from hbb)).trans hB.2.2.2⟩⟩
      go_upto_region 6 with fail
      refine heldH (S := fun W => (W.cell? ⟨ab, ao + j * 4, none⟩ = some (.int .i64 x.a) ∧ W.cell? ⟨ab, ao + j * 4 + 1, none⟩ = some (.int .i64 x.b) ∧ W.cell? ⟨ab, ao + j * 4 + 2, none⟩ = some (.int .i64 x.score) ∧ W.cell? ⟨ab, ao + j * 4 + 3, none⟩ = some (.bool x.forfeit)) ∧ (W.cell? ⟨bb, bo + j * 4, none⟩ = some (.int .i64 x.a) ∧ W.cell? ⟨bb, bo + j * 4 + 1, none⟩ = some (.int .i64 x.b) ∧ W.cell? ⟨bb, bo + j * 4 + 2, none⟩ = some (.int .i64 x.score) ∧ W.cell? ⟨bb, bo + j * 4 + 3, none⟩ = some (.bool x.forfeit))) (n := 10) (listed := #[false, false, false, false, false, false, false, false, false, false]) (by kernel_rfl) (by rfl) (by rfl) ?_ (fun hHeld => ?_)
      (focus ((try dsimp only); (first | done | ((first | exact HAB.out _ HB2.out | exact HAB.out _ (Below.refl _ _).drew); done))))
      (refine takeH (i := 0) (v := ?_) (by decide +kernel) (by decide +kernel) (by kernel_rfl) (by rfl) (by exact fun _ _ _ h => h) (by rfl) ?_ (by assumption) ?_); rotate_left; (focus (intro w hSw; (try dsimp only at hSw); go_simp; (try with_reducible rfl); done)); (try simp only [Act.put, List.setIfInBounds_toArray, List.set_cons_zero, List.set_cons_succ])
      (refine takeH (i := 1) (v := ?_) (by decide +kernel) (by decide +kernel) (by kernel_rfl) (by rfl) (by exact fun _ _ _ h => h) (by rfl) ?_ (by assumption) ?_); rotate_left; (focus (intro w hSw; (try dsimp only at hSw); go_simp; (try with_reducible rfl); done)); (try simp only [Act.put, List.setIfInBounds_toArray, List.set_cons_zero, List.set_cons_succ])
      (refine takeH (i := 2) (v := ?_) (by decide +kernel) (by decide +kernel) (by kernel_rfl) (by rfl) (by exact fun _ _ _ h => h) (by rfl) ?_ (by assumption) ?_); rotate_left; (focus (intro w hSw; (try dsimp only at hSw); go_simp; (try with_reducible rfl); done)); (try simp only [Act.put, List.setIfInBounds_toArray, List.set_cons_zero, List.set_cons_succ])
      (refine takeH (i := 3) (v := ?_) (by decide +kernel) (by decide +kernel) (by kernel_rfl) (by rfl) (by exact fun _ _ _ h => h) (by rfl) ?_ (by assumption) ?_); rotate_left; (focus (intro w hSw; (try dsimp only at hSw); go_simp; (try with_reducible rfl); done)); (try simp only [Act.put, List.setIfInBounds_toArray, List.set_cons_zero, List.set_cons_succ])
      (refine takeH (i := 4) (v := ?_) (by decide +kernel) (by decide +kernel) (by kernel_rfl) (by rfl) (by exact fun _ _ _ h => h) (by rfl) ?_ (by assumption) ?_); rotate_left; (focus (intro w hSw; (try dsimp only at hSw); go_simp; (try with_reducible rfl); done)); (try simp only [Act.put, List.setIfInBounds_toArray, List.set_cons_zero, List.set_cons_succ])
      (refine takeH (i := 5) (v := ?_) (by decide +kernel) (by decide +kernel) (by kernel_rfl) (by rfl) (by exact fun _ _ _ h => h) (by rfl) ?_ (by assumption) ?_); rotate_left; (focus (intro w hSw; (try dsimp only at hSw); go_simp; (try with_reducible rfl); done)); (try simp only [Act.put, List.setIfInBounds_toArray, List.set_cons_zero, List.set_cons_succ])
      (refine takeH (i := 6) (v := ?_) (by decide +kernel) (by decide +kernel) (by kernel_rfl) (by rfl) (by exact fun _ _ _ h => h) (by rfl) ?_ (by assumption) ?_); rotate_left; (focus (intro w hSw; (try dsimp only at hSw); go_simp; (try with_reducible rfl); done)); (try simp only [Act.put, List.setIfInBounds_toArray, List.set_cons_zero, List.set_cons_succ])
      (refine takeH (i := 7) (v := ?_) (by decide +kernel) (by decide +kernel) (by kernel_rfl) (by rfl) (by exact fun _ _ _ h => h) (by rfl) ?_ (by assumption) ?_); rotate_left; (focus (intro w hSw; (try dsimp only at hSw); go_simp; (try with_reducible rfl); done)); (try simp only [Act.put, List.setIfInBounds_toArray, List.set_cons_zero, List.set_cons_succ])
      refine nextH (i := 8) (by decide +kernel) (by rfl) (by rfl) (fun K hK => ?_)
      go_simp
      (go_at_call 38; (refine (eqMatch_c x _).mono ?_); (rintro e w2 ⟨rfl, hb2⟩); (have HB2 := Lib.hid (below_next (Below.refl wr.heap.size wr).drew hb2)))
      refine hK.out _ _ ?_ (fun hHeld' => ?_)
      (focus ((try dsimp only); (first | done | ((first | exact HAB.out _ HB2.out | exact HAB.out _ (Below.refl _ _).drew); done))))
      clear hK K hHeld
      have hHeld := hHeld'
      clear hHeld'
      (try simp only [Act.put, List.setIfInBounds_toArray, List.set_cons_zero, List.set_cons_succ])
      (refine takeH (i := 9) (v := ?_) (by decide +kernel) (by decide +kernel) (by kernel_rfl) (by rfl) (by exact fun _ _ _ h => h) (by rfl) ?_ (by assumption) ?_); rotate_left; (focus (intro w hSw; (try dsimp only at hSw); go_simp; (try with_reducible rfl); done)); (try simp only [Act.put, List.setIfInBounds_toArray, List.set_cons_zero, List.set_cons_succ])
      refine wpAnyH_done (by decide +kernel) ?_ _
      have HB3 := Lib.hid (below_next HB.out HB2.out)
      clear hHeld hb2 HB HAB hA hB HB2
      go_wp2
      go_roundw
      case rel => exact ⟨j + 1, by go_num, by omega, HB3⟩
      case measure => simp [intOf]; omega
    · go_wp2
      go_ret
      exact ⟨rfl, HB.out⟩

def mkMt (x : Mt) (k : Int) : Mt := ⟨k, k + 1, k + 1 + 1, (k + 1 + 1 + 1) % 3 == 0⟩
def szMt (x : Mt) : Int := 4
theorem szMt_pos (x : Mt) : 0 ≤ szMt x := by unfold szMt; omega
theorem szMt_sum : ∀ l : List Mt, mkSum szMt l = 4 * (l.length : Int)
  | [] => by simp [mkSum]
  | x :: l => by rw [mkSum, szMt_sum l, szMt, List.length_cons]; omega
set_option maxRecDepth 100000 in
set_option maxHeartbeats 8000000 in
theorem markMatchS_c (lo hi : Nat) (ad : Option Addr) (c : Nat) (l : List Mt) (k : Int) (w : World) (h : PcsP lo hi (mtRL.pcs ad c l) w) (hn : l.length ≤ 1048576) (hk : 0 ≤ k) (hk' : k ≤ 1000000000) :
    Calls Tryd.prog 15 #[.slice ad l.length c, .int .i64 k] w fun e w' => e = .returned (.int .i64 (k + 4 * (l.length : Int))) ∧ PcsP lo hi (mtRL.pcs ad c (mkGo mkMt szMt l k)) w' ∧ Chg lo hi w w' := by
  have HH := Lib.hid h
  clear h
  have hsum := szMt_sum l
  go_enter Tryd.func15, Tryd.ntmps15
  go_wp2
  go_loopw [1, 5] (fun q i wr => ∃ j : Nat, j ≤ l.length ∧ i = .int .i64 j ∧ q = .int .i64 (mkAt szMt l k j) ∧ Hid (PcsP lo hi (mtRL.pcs ad c (mkd mkMt szMt l k j)) wr ∧ Chg lo hi w wr)) (fun _ i _ => l.length - (intOf i).toNat)
  case atStart => exact ⟨0, Nat.zero_le _, rfl, by rw [mkAt_zero], by unfold Hid; rw [mkd_zero]; exact ⟨HH.out, Chg.refl _ _ _⟩⟩
  case round =>
    obtain ⟨j, hj, rfl, rfl, HST⟩ := hrel
    clear HH
    by_cases hlt : j < l.length
    · have hx0 : l[j]? = some l[j] := List.getElem?_eq_getElem hlt
      have hx1 : (mkd mkMt szMt l k j)[j]? = some l[j] := by rw [mkd_get mkMt szMt k hlt]; exact hx0
      have HN : Hid (mkAt szMt l k (j + 1) = mkAt szMt l k j + szMt l[j]) := mkAt_succ szMt k hx0
      have HS : Hid ((mkd mkMt szMt l k j).set j (mkMt l[j] (mkAt szMt l k j)) = mkd mkMt szMt l k (j + 1)) := mkd_set mkMt szMt k hx0
      have hb1 := mkAt_le szMt szMt_pos l k j
      have hb2 := mkAt_le szMt szMt_pos l k (j + 1)
      have HLL : Hid ((mkd mkMt szMt l k j).length = l.length) := mkd_len mkMt szMt l k j
      rw [HN.out] at hb2
      obtain ⟨y, hy⟩ : ∃ y, y = l[j] := ⟨_, rfl⟩
      obtain ⟨K, hK⟩ : ∃ K, K = mkAt szMt l k j := ⟨_, rfl⟩
      obtain ⟨L, hL⟩ : ∃ L, L = mkd mkMt szMt l k j := ⟨_, rfl⟩
      rw [← hK] at HN HS hb1 hb2 ⊢
      rw [← hy] at HN HS hx1 hb2
      rw [← hL] at HS hx1 HST HLL
      clear hy hK hL hx0
      simp only [szMt] at hb2
      obtain ⟨h2, hC0⟩ := HST.out
      have hll := HLL.out
      obtain ⟨g, hg, hg1, hg2⟩ := RL.at h2 (by omega)
      subst hg
      obtain ⟨h3, g0⟩ := RL.setField h2 hx1 (i := 0) (v := .int .i64 (K)) (x' := (⟨K, y.b, y.score, y.forfeit⟩ : Mt)) (by decide) rfl rfl
      have hx2 : (L.set j (⟨K, y.b, y.score, y.forfeit⟩ : Mt))[j]? = some ⟨K, y.b, y.score, y.forfeit⟩ := List.getElem?_set_self (by omega)
      obtain ⟨h4, g1⟩ := RL.setField h3 hx2 (i := 1) (v := .int .i64 (K + 1)) (x' := (⟨K, K + 1, y.score, y.forfeit⟩ : Mt)) (by decide) rfl rfl
      rw [List.set_set] at h4
      have hx3 : (L.set j (⟨K, K + 1, y.score, y.forfeit⟩ : Mt))[j]? = some ⟨K, K + 1, y.score, y.forfeit⟩ := List.getElem?_set_self (by omega)
      obtain ⟨h5, g2⟩ := RL.setField h4 hx3 (i := 2) (v := .int .i64 (K + 1 + 1)) (x' := (⟨K, K + 1, K + 1 + 1, y.forfeit⟩ : Mt)) (by decide) rfl rfl
      rw [List.set_set] at h5
      have hx4 : (L.set j (⟨K, K + 1, K + 1 + 1, y.forfeit⟩ : Mt))[j]? = some ⟨K, K + 1, K + 1 + 1, y.forfeit⟩ := List.getElem?_set_self (by omega)
      obtain ⟨h6, g3⟩ := RL.setField h5 hx4 (i := 3) (v := .bool ((K + 1 + 1 + 1) % 3 == 0)) (x' := (⟨K, K + 1, K + 1 + 1, (K + 1 + 1 + 1) % 3 == 0⟩ : Mt)) (by decide) rfl rfl
      rw [List.set_set] at h6
      have gf := fun o => (RL.main h2).frozenAt o
      obtain ⟨q0, f0⟩ : _ ∧ _ := RL.cell h2 hx1 (i := 0) (by decide) rfl
      obtain ⟨q1, f1⟩ : _ ∧ _ := RL.cell h2 hx1 (i := 1) (by decide) rfl
      obtain ⟨q2, f2⟩ : _ ∧ _ := RL.cell h2 hx1 (i := 2) (by decide) rfl
      obtain ⟨q3, f3⟩ : _ ∧ _ := RL.cell h2 hx1 (i := 3) (by decide) rfl
      have hcl := ((((hC0.trans g0).trans g1).trans g2).trans g3)
      simp only [show mtRL.n = 4 from rfl, Nat.add_zero] at q0 f0 q1 f1 q2 f2 q3 f3 h6 hcl
      have hfin : L.set j (⟨K, K + 1, K + 1 + 1, (K + 1 + 1 + 1) % 3 == 0⟩ : Mt) = mkd mkMt szMt l k (j + 1) := HS.out
      rw [hfin] at h6
      have HH := Lib.hid (And.intro h6 hcl)
      have HNE : Hid (mkAt szMt l k (j + 1) = K + 1 + 1 + 1 + 1) := by
        have := HN.out
        unfold Hid
        rw [this]
        simp only [szMt]
        omega
      clear h2 h3 h4 h5 h6 hx1 hx2 hx3 hx4 hfin HS HST hC0 hcl g0 g1 g2 g3 HN hll
      go_wp2
      go_roundw
      case rel => exact ⟨j + 1, by omega, by go_num, by rw [HNE.out], HH⟩
      case measure => simp [intOf]; omega
    · obtain rfl : j = l.length := by omega
      have := HST.out
      rw [mkd_all] at this
      have HR := Lib.hid this
      clear this HST
      rw [mkAt_all, hsum]
      go_wp2
      go_ret
      exact ⟨rfl, HR.out.1, HR.out.2⟩

/-! ### the law's argument, opened -/
theorem list_mt {α : Type} {cs : List α} (h : cs.length = 4) : ∃ a0 a1 a2 a3, cs = [a0, a1, a2, a3] := by
  match cs, h with
  | [a0, a1, a2, a3], _ => exact ⟨a0, a1, a2, a3, rfl⟩
def Mt.Rng (x : Mt) : Prop := I64 x.a ∧ I64 x.b ∧ I64 x.score
set_option maxRecDepth 100000 in
theorem open_mt {H : Type} {enc : TypeId × Value → H} {W : World} {held : Bool} {fuel : Nat} {cs : List Value} {x : DataW H × List MemPlace}
    (h : DataW.trod enc Tryd.prog W 0 (fun _ => true) held fuel 64 cs = some x) : ∃ k : Mt, cs = mtRL.f k ∧ k.Rng := by
  obtain ⟨xs, n, _, _, hl, hxs, hf⟩ := DataW.trod_struct Tryd.underlying64 h
  have hc : Tryd.prog.cellsOf 64 = 4 := by kernel_rfl
  have ci : Tryd.prog.cellsOf 2 = 1 := by kernel_rfl
  have cb : Tryd.prog.cellsOf 4 = 1 := by kernel_rfl
  rw [hc] at hl
  obtain ⟨a0, a1, a2, a3, rfl⟩ := list_mt hl
  obtain ⟨y0, y1, y2, y3, rfl⟩ := list_mt (cs := xs) (by simpa using hxs)
  have f0 := hf 0 _ rfl
  have f1 := hf 1 _ rfl
  have f2 := hf 2 _ rfl
  have f3 := hf 3 _ rfl
  simp [ci, cb] at f0 f1 f2 f3
  obtain ⟨n0, e0, _, w0⟩ := DataW.trod_int Tryd.underlying2 f0
  obtain ⟨n1, e1, _, w1⟩ := DataW.trod_int Tryd.underlying2 f1
  obtain ⟨n2, e2, _, w2⟩ := DataW.trod_int Tryd.underlying2 f2
  obtain ⟨n3, e3, _⟩ := DataW.trod_bool Tryd.underlying4 f3
  simp at e0 e1 e2 e3
  subst e0 e1 e2 e3
  exact ⟨⟨n0, n1, n2, n3⟩, rfl, ⟨I64_of_wf w0, I64_of_wf w1, I64_of_wf w2⟩⟩
set_option maxRecDepth 100000 in
theorem arg_mts {H : Type} {enc : TypeId × Value → H} {W : World} {base : Nat} {v : Value} {d : DataW H} {q : List MemPlace}
    (hval : Value.okWide Tryd.prog W .any base 28 v) (h : DataW.Trod enc Tryd.prog W 0 (fun _ => true) true 28 v d q) :
    ∃ (a : Option Addr) (c : Nat) (l : List Mt), v = .slice a l.length c ∧ Row W a (flat mtRL.f l) ∧ l.length ≤ maxLen ∧ ∀ x ∈ l, x.Rng := by
  obtain ⟨a0, len, cap, rfl⟩ := okWide_slice Tryd.underlying28 hval
  obtain ⟨fuel, hf⟩ := h
  obtain ⟨l, a, c, hcs, hr, hm, hp⟩ := open_flats mtRL.hf (by decide) Mt.Rng (f := mtRL.f) Tryd.underlying28 (by kernel_rfl) (fun h => open_mt h) hf
  simp [Value.cells] at hcs
  obtain ⟨rfl, rfl, rfl⟩ := hcs
  exact ⟨_, _, l, rfl, hr, hm, hp⟩

end Go.Proofs.YtbjgigdkbjabaaaDoor
