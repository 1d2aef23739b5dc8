/- MemB: whether a slot is valid: both sides. Each contract holds for every argument, under the premises that it states. -/
import Derived.Test.YtbjgigdkbjabaaaMemA
import Derived.Test.YtbjgigdkbjabaaaCapP
namespace Go.Proofs.Ytbjgigdkbjabaaa
set_option linter.unusedSimpArgs false
set_option linter.unusedVariables false
set_option linter.unnecessarySimpa false
open Go.RowKit Go.ChangeShapes Go.WideShapes Go.ChangeAt Go.Joins

/-! ### in plain terms -/
@[go_sem] def Sl.key (x : Sl) : P := ⟨x.pits, [0, 0], x.player⟩
def valsOk (d v b : Int) : Bool := inB d 1 8 && inB v (-96) 96 && inB b 0 2
def Sl.okAt (r : R) (n : Nat) (i : Int) (x : Sl) : Bool :=
  if x.used = false then decide (x.pits.length = 0) && (x.player == 0) && (x.depth == 0) && (x.value == 0) && (x.bound == 0)
  else x.key.ok r && valsOk x.depth x.value x.bound && (hashP x.pits x.player n == i)

theorem me_box {w : World} {b : Nat} {r : R} {a : Option Addr} {n c : Nat} (h : BoxP b (meCells r a n c).toList w) : (w.cell? ⟨b, 0, none⟩ = some (.int .i64 r.pits) ∧ w.cell? ⟨b, 1, none⟩ = some (.int .i64 r.seeds) ∧ w.cell? ⟨b, 2, none⟩ = some (.bool r.stores) ∧ w.cell? ⟨b, 3, none⟩ = some (.bool r.skip) ∧ w.cell? ⟨b, 4, none⟩ = some (.bool r.relay) ∧ w.cell? ⟨b, 5, none⟩ = some (.bool r.feed) ∧ w.cell? ⟨b, 6, none⟩ = some (.bool r.again) ∧ w.cell? ⟨b, 7, none⟩ = some (.int .i64 r.capture) ∧ w.cell? ⟨b, 8, none⟩ = some (.int .i64 r.slam) ∧ w.cell? ⟨b, 9, none⟩ = some (.slice a n c)) := ⟨h 0 _ rfl, h 1 _ rfl, h 2 _ rfl, h 3 _ rfl, h 4 _ rfl, h 5 _ rfl, h 6 _ rfl, h 7 _ rfl, h 8 _ rfl, h 9 _ rfl⟩
theorem sl_box {w : World} {b : Nat} {x : Sl} {k : SA} (h : BoxP b (x.cells k).toList w) : (w.cell? ⟨b, 0, none⟩ = some (.bool x.used) ∧ w.cell? ⟨b, 1, none⟩ = some (.slice k.qa x.pits.length k.qc) ∧ w.cell? ⟨b, 2, none⟩ = some (.int .i64 x.player) ∧ w.cell? ⟨b, 3, none⟩ = some (.int .i64 x.depth) ∧ w.cell? ⟨b, 4, none⟩ = some (.int .i64 x.value) ∧ w.cell? ⟨b, 5, none⟩ = some (.int .i64 x.bound)) := ⟨h 0 _ rfl, h 1 _ rfl, h 2 _ rfl, h 3 _ rfl, h 4 _ rfl, h 5 _ rfl⟩

set_option maxHeartbeats 2000000 in
theorem validContents_c (d v b : Int) (w : World) : Calls Try.prog 87 #[.int .i64 d, .int .i64 v, .int .i64 b] w fun e w' => e = .returned (.bool (valsOk d v b)) ∧ w = w' := by
  have HE : ∀ x, valsOk d v b = x → Hid (valsOk d v b = x) := fun _ h => h
  have h1 := between_c d 1 8 w
  have h2 := between_c v (-96) 96 w
  have h3 := between_c b 0 2 w
  obtain ⟨b1, e1⟩ : ∃ x, x = inB d 1 8 := ⟨_, rfl⟩
  obtain ⟨b2, e2⟩ : ∃ x, x = inB v (-96) 96 := ⟨_, rfl⟩
  obtain ⟨b3, e3⟩ : ∃ x, x = inB b 0 2 := ⟨_, rfl⟩
  rw [← e1] at h1
  rw [← e2] at h2
  rw [← e3] at h3
  have HF := HE (b1 && b2 && b3) (by rw [valsOk, e1, e2, e3])
  have H1 := Lib.hid h1
  have H2 := Lib.hid h2
  have H3 := Lib.hid h3
  clear h1 h2 h3 e1 e2 e3 HE
  cases b1
  · go_enter Try.func87, Try.ntmps87
    go_wp2_with fail
    refine H1.out.mono ?_
    rintro e w1 ⟨rfl, rfl⟩
    go_wp2
    go_ret
    exact ⟨by rw [HF.out]; rfl, rfl⟩
  cases b2
  · go_enter Try.func87, Try.ntmps87
    go_wp2_with fail
    refine H1.out.mono ?_
    rintro e w1 ⟨rfl, rfl⟩
    go_wp2_with fail
    refine H2.out.mono ?_
    rintro e w1 ⟨rfl, rfl⟩
    go_wp2
    go_ret
    exact ⟨by rw [HF.out]; rfl, rfl⟩
  go_enter Try.func87, Try.ntmps87
  go_wp2_with fail
  refine H1.out.mono ?_
  rintro e w1 ⟨rfl, rfl⟩
  go_wp2_with fail
  refine H2.out.mono ?_
  rintro e w1 ⟨rfl, rfl⟩
  go_wp2_with fail
  refine H3.out.mono ?_
  rintro e w1 ⟨rfl, rfl⟩
  go_wp2
  go_ret
  exact ⟨by rw [HF.out]; cases b3 <;> rfl, rfl⟩

theorem l16Value_c (n : Int) (w : World) : Calls Try.prog 85 #[.int .i64 n] w fun e w' => e = .returned (.bool (inB n (-96) 96)) ∧ w = w' := by
  go_enter Try.func85, Try.ntmps85
  go_wp2_with fail
  refine (l00In_c _ _ _ _).mono ?_
  rintro e w1 ⟨rfl, rfl⟩
  go_wp2
  go_ret
  exact ⟨rfl, rfl⟩

/-- a position that is looked up: its stores' row is new -/
def KeyRes (w : World) (x : Sl) (k : SA) (e : Ending) (w' : World) : Prop := ∃ (sa : Option Addr) (sc : Nat), e = .returned (x.key.val k.qa k.qc sa sc) ∧ Ints w' sa [0, 0] ∧ Below w.heap.size w w'
set_option maxHeartbeats 2000000 in
theorem position_c (x : Sl) (k : SA) (w : World) : Calls Try.prog 133 #[x.val k] w (KeyRes w x k) := by
  go_enter Try.func133, Try.ntmps133
  go_wp2
  refine bodyPost_ret (v := x.key.val k.qa k.qc (some ⟨w.heap.size + 1 + 1, 0, none⟩) 2) (by simp [results, Try.results133, go_sem, Sl.key, P.val, P.cells]) rfl ⟨_, _, rfl, ?_, ?_⟩
  · have F := (((Fr.start w).alloc (x.cells k) 113).alloc #[.slice k.qa x.pits.length k.qc, .slice (some ⟨w.heap.size + 1 + 1, 0, none⟩) 2 2, .int .i64 x.player] 30).alloc #[.int .i64 0, .int .i64 0] 2
    simp only [World.size_alloc] at F
    exact (F.at 0 rfl).row
  · exact below_alloc3 _ _ _ _

set_option maxHeartbeats 2000000 in
theorem l16Key_c (b o : Nat) (x : Sl) (k : SA) (w : World) (c1 : w.cell? ⟨b, o + 1, none⟩ = some (.slice k.qa x.pits.length k.qc)) (c2 : w.cell? ⟨b, o + 2, none⟩ = some (.int .i64 x.player)) :
    Calls Try.prog 163 #[.pointer (some ⟨b, o, none⟩)] w (KeyRes w x k) := by
  have hb : b < w.heap.size := World.block_lt_of_cell? w _ c1
  have hne : ¬ b = w.heap.size := by omega
  have F0 := (Fr.start w).allocF #[.slice none 0 0, .slice none 0 0, .int .i64 0] 30
  have B0 := Lib.hid F0.below
  clear F0
  go_enter Try.func163, Try.ntmps163
  go_wp2_with fail
  refine heldH (S := fun W => W.cell? ⟨b, o + 1, none⟩ = some (.slice k.qa x.pits.length k.qc) ∧ W.cell? ⟨b, o + 2, none⟩ = some (.int .i64 x.player)) (n := 11) (listed := #[false, false, false, false, false, false, false, false, false, false, false]) (by kernel_rfl) (by rfl) (by rfl) ?_ (fun hHeld => ?_)
  (focus ((try dsimp only); (first | done | (((refine ⟨?_, ?_⟩ <;> simp [go_sem, c1, c2, hb, hne])); done))))
  (refine takeH (i := 0) (v := ?_) (by decide +kernel) (by decide +kernel) (by kernel_rfl) (by rfl) (by exact fun _ _ _ h => h) (by rfl) ?_ (by assumption) ?_); rotate_left; (focus (intro w hSw; (try dsimp only at hSw); go_simp; (try with_reducible rfl); done)); (try simp only [Act.put, List.setIfInBounds_toArray, List.set_cons_zero, List.set_cons_succ])
  (refine takeH (i := 1) (v := ?_) (by decide +kernel) (by decide +kernel) (by kernel_rfl) (by rfl) (by exact fun _ _ _ h => h) (by rfl) ?_ (by assumption) ?_); rotate_left; (focus (intro w hSw; (try dsimp only at hSw); go_simp; (try with_reducible rfl); done)); (try simp only [Act.put, List.setIfInBounds_toArray, List.set_cons_zero, List.set_cons_succ])
  (refine takeH (i := 2) (v := ?_) (by decide +kernel) (by decide +kernel) (by kernel_rfl) (by rfl) (by exact fun _ _ _ h => h) (by rfl) ?_ (by assumption) ?_); rotate_left; (focus (intro w hSw; (try dsimp only at hSw); go_simp; (try with_reducible rfl); done)); (try simp only [Act.put, List.setIfInBounds_toArray, List.set_cons_zero, List.set_cons_succ])
  (refine takeH (i := 3) (v := ?_) (by decide +kernel) (by decide +kernel) (by kernel_rfl) (by rfl) (by exact fun _ _ _ h => h) (by rfl) ?_ (by assumption) ?_); rotate_left; (focus (intro w hSw; (try dsimp only at hSw); go_simp; (try with_reducible rfl); done)); (try simp only [Act.put, List.setIfInBounds_toArray, List.set_cons_zero, List.set_cons_succ])
  (refine takeH (i := 5) (v := ?_) (by decide +kernel) (by decide +kernel) (by kernel_rfl) (by rfl) (by exact fun _ _ _ h => h) (by rfl) ?_ (by assumption) ?_); rotate_left; (focus (intro w hSw; (try dsimp only at hSw); go_simp; (try with_reducible rfl); done)); (try simp only [Act.put, List.setIfInBounds_toArray, List.set_cons_zero, List.set_cons_succ])
  (refine takeH (i := 6) (v := ?_) (by decide +kernel) (by decide +kernel) (by kernel_rfl) (by rfl) (by exact fun _ _ _ h => h) (by rfl) ?_ (by assumption) ?_); rotate_left; (focus (intro w hSw; (try dsimp only at hSw); go_simp; (try with_reducible rfl); done)); (try simp only [Act.put, List.setIfInBounds_toArray, List.set_cons_zero, List.set_cons_succ])
  (refine takeH (i := 7) (v := ?_) (by decide +kernel) (by decide +kernel) (by kernel_rfl) (by rfl) (by exact fun _ _ _ h => h) (by rfl) ?_ (by assumption) ?_); rotate_left; (focus (intro w hSw; (try dsimp only at hSw); go_simp; (try with_reducible rfl); done)); (try simp only [Act.put, List.setIfInBounds_toArray, List.set_cons_zero, List.set_cons_succ])
  (refine takeH (i := 8) (v := ?_) (by decide +kernel) (by decide +kernel) (by kernel_rfl) (by rfl) (by exact fun _ _ _ h => h) (by rfl) ?_ (by assumption) ?_); rotate_left; (focus (intro w hSw; (try dsimp only at hSw); go_simp; (try with_reducible rfl); done)); (try simp only [Act.put, List.setIfInBounds_toArray, List.set_cons_zero, List.set_cons_succ])
  refine nextH (i := 4) (by decide +kernel) (by rfl) (by rfl) (fun K hK => ?_)
  go_simp
  (skip)
  refine hK.out _ _ ?_ (fun hHeld' => ?_)
  (focus ((try dsimp only); (first | done | (((refine ⟨?_, ?_⟩ <;> simp [go_sem, c1, c2, hb, hne])); done))))
  clear hK K hHeld
  have hHeld := hHeld'
  clear hHeld'
  (try simp only [Act.put, List.setIfInBounds_toArray, List.set_cons_zero, List.set_cons_succ])
  (refine takeH (i := 9) (v := ?_) (by decide +kernel) (by decide +kernel) (by kernel_rfl) (by rfl) (by exact fun _ _ _ h => h) (by rfl) ?_ (by assumption) ?_); rotate_left; (focus (intro w hSw; (try dsimp only at hSw); go_simp; (try with_reducible rfl); done)); (try simp only [Act.put, List.setIfInBounds_toArray, List.set_cons_zero, List.set_cons_succ])
  refine nextH (i := 10) (by decide +kernel) (by rfl) (by rfl) (fun K hK => ?_)
  go_simp
  (skip)
  refine hK.out _ _ ?_ (fun hHeld' => ?_)
  (focus ((try dsimp only); (first | done | (((refine ⟨?_, ?_⟩ <;> simp [go_sem, c1, c2, hb, hne])); done))))
  clear hK K hHeld
  have hHeld := hHeld'
  clear hHeld'
  (try simp only [Act.put, List.setIfInBounds_toArray, List.set_cons_zero, List.set_cons_succ])
  refine wpAnyH_done (by decide +kernel) ?_ _
  clear hHeld
  go_wp2
  refine bodyPost_ret (v := x.key.val k.qa k.qc (some ⟨w.heap.size + 1, 0, none⟩) 2) (by simp [results, Try.results163, go_sem, Sl.key, P.val, P.cells]) rfl ⟨_, _, rfl, ?_, ?_⟩
  · have F := ((Fr.start w).alloc #[.slice k.qa x.pits.length k.qc, .slice (some ⟨w.heap.size + 1, 0, none⟩) 2 2, .int .i64 x.player] 30).alloc #[.int .i64 0, .int .i64 0] 2
    simp only [World.size_alloc] at F
    exact (F.drew.at 0 rfl).row
  · exact (below_alloc2 _ _ _).drew

end Go.Proofs.Ytbjgigdkbjabaaa
