/- TabM: a match as a text: both sides. Each contract holds for every argument, under the premises that it states. -/
import Derived.Test.YtbjgigdkbjabaaaDoorTabR
import Derived.Test.YtbjgigdkbjabaaaDoorTab18
namespace Go.Proofs.YtbjgigdkbjabaaaDoor
set_option linter.unusedSimpArgs false
set_option linter.unusedVariables false
set_option linter.unnecessarySimpa false
open Go.RowKit Go.ChangeShapes Go.WideShapes Go.ChangeAt Go.Joins

/-! ### in plain terms -/
def wordsT (x : Mt) : List UInt8 := Lib.itoa x.a ++ [32] ++ Lib.itoa x.b ++ [32] ++ Lib.itoa x.score ++ (if x.forfeit = true then [32, 102] else [])
def mT (x : Mt) : List UInt8 := if x.ok 12 = true then wordsT x else []
theorem itoa_nat (n : Nat) : Lib.itoa (n : Int) = Lib.decDigits n := by
  unfold Lib.itoa
  rw [if_neg (by omega)]
  simp
theorem boxP_keep {w w' : World} {g : Nat} {cs : List Value} (h : BoxP g cs w) (hb : Below w.heap.size w w') : BoxP g cs w' := fun j v hv =>
  (hb.cell (show (Addr.mk g j none).block < _ from World.block_lt_of_cell? w _ (h j v hv))).trans (h j v hv)

theorem DecimalS_c (n : Nat) (w : World) (h : n < 100) : Calls Tryd.prog 37 #[.int .i64 (n : Int)] w fun e w' => e = .returned (.string ⟨(Lib.itoa (n : Int)).toArray⟩) ∧ w' = w := by
  have HC := Lib.hid (Tryd.strconv_FormatInt_10_small n h w)
  rw [itoa_nat]
  go_enter Tryd.func37, Tryd.ntmps37
  go_wp2_with fail
  refine HC.out.mono ?_
  rintro e w1 ⟨rfl, rfl⟩
  clear HC
  go_wp2
  go_ret
  exact ⟨rfl, rfl⟩

set_option maxRecDepth 100000 in
set_option maxHeartbeats 8000000 in
theorem iMatchText_c (x : Mt) (w : World) : Calls Tryd.prog 21 #[x.val] w fun e w' => e = .returned (.string ⟨(mT x).toArray⟩) ∧ Below w.heap.size w w' := by
  have HV := Lib.hid (validMatch_c 12 x (w.alloc (.cells x.cells 45)) (by omega))
  cases hv : x.ok 12 with
  | false =>
    have HF : Hid (mT x = []) := by unfold Hid mT; rw [if_neg (by rw [hv]; simp)]
    rw [hv] at HV
    clear hv
    obtain ⟨a, b, score, ff⟩ := x
    go_enter Tryd.func21, Tryd.ntmps21
    go_wp2_with fail
    refine HV.out.mono ?_
    rintro e w1 ⟨rfl, hb1⟩
    have HB := Lib.hid (below_next (below_alloc1 w _) hb1)
    clear hb1 HV
    go_wp2
    go_ret
    exact ⟨by rw [HF.out]; rfl, HB.out⟩
  | true =>
    have HF : Hid (mT x = wordsT x) := by unfold Hid mT; rw [if_pos hv]
    rw [hv] at HV
    obtain ⟨k1, k2, k3, k4⟩ := Mt.ok_parts hv
    obtain ⟨a, b, score, ff⟩ := x
    dsimp only at k1 k2 k3 k4
    obtain ⟨a, rfl⟩ : ∃ n : Nat, a = (n : Int) := ⟨a.toNat, by omega⟩
    obtain ⟨b, rfl⟩ : ∃ n : Nat, b = (n : Int) := ⟨b.toNat, by omega⟩
    obtain ⟨score, rfl⟩ : ∃ n : Nat, score = (n : Int) := ⟨score.toNat, by omega⟩
    have HA := Lib.hid (fun W => DecimalS_c a W (by omega))
    have HBc := Lib.hid (fun W => DecimalS_c b W (by omega))
    have HS := Lib.hid (fun W => DecimalS_c score W (by omega))
    have la := itoa_len (x := (a : Int)) (by omega)
    have lb := itoa_len (x := (b : Int)) (by omega)
    have ls := itoa_len (x := (score : Int)) (by omega)
    have HW : Hid (wordsT ⟨a, b, score, ff⟩ = Lib.itoa (a : Int) ++ [32] ++ Lib.itoa (b : Int) ++ [32] ++ Lib.itoa (score : Int) ++ (if ff = true then [32, 102] else [])) := rfl
    obtain ⟨A, hA⟩ : ∃ A, A = Lib.itoa (a : Int) := ⟨_, rfl⟩
    obtain ⟨B, hB⟩ : ∃ B, B = Lib.itoa (b : Int) := ⟨_, rfl⟩
    obtain ⟨S, hS⟩ : ∃ S, S = Lib.itoa (score : Int) := ⟨_, rfl⟩
    rw [← hA] at HA la HW
    rw [← hB] at HBc lb HW
    rw [← hS] at HS ls HW
    have hap := ba_app
    have hsz : ∀ x : List UInt8, (ByteArray.mk x.toArray).size = x.length := str_size
    have HBX : Hid (BoxP w.heap.size [.int .i64 (a : Int), .int .i64 (b : Int), .int .i64 (score : Int), .bool ff] (w.alloc (.cells #[.int .i64 (a : Int), .int .i64 (b : Int), .int .i64 (score : Int), .bool ff] 45))) := ((Fr.start w).alloc #[.int .i64 (a : Int), .int .i64 (b : Int), .int .i64 (score : Int), .bool ff] 45).at 0 rfl
    clear hA hB hS hv k1 k2 k3 k4
    go_enter Tryd.func21, Tryd.ntmps21
    go_wp2_with fail
    refine HV.out.mono ?_
    rintro e w1 ⟨rfl, hb1⟩
    have hbx := boxP_keep HBX.out hb1
    have c0 : w1.cell? ⟨w.heap.size, 0, none⟩ = some (.int .i64 (a : Int)) := hbx 0 _ rfl
    have c1 : w1.cell? ⟨w.heap.size, 1, none⟩ = some (.int .i64 (b : Int)) := hbx 1 _ rfl
    have c2 : w1.cell? ⟨w.heap.size, 2, none⟩ = some (.int .i64 (score : Int)) := hbx 2 _ rfl
    have c3 : w1.cell? ⟨w.heap.size, 3, none⟩ = some (.bool ff) := hbx 3 _ rfl
    have HB := Lib.hid (below_next (below_alloc1 w _) hb1)
    clear hb1 HV hbx HBX
    go_wp2_with fail
    go_quiet ((go_at_call 37; first | exact Calls.quiet_of_same (HA.out _) | exact Calls.quiet_of_same (HBc.out _) | exact Calls.quiet_of_same (HS.out _)))
    cases ff
    · go_wp2
      go_ret
      exact ⟨by rw [HF.out, HW.out]; simp, below_next HB.out (below_draws _ _ _)⟩
    · go_wp2
      go_ret
      exact ⟨by rw [HF.out, HW.out]; simp, below_next HB.out (below_draws _ _ _)⟩

def Small (x : Mt) : Prop := (-99 ≤ x.a ∧ x.a ≤ 99) ∧ (-99 ≤ x.b ∧ x.b ≤ 99) ∧ (-99 ≤ x.score ∧ x.score ≤ 99)
theorem small_ok {x : Mt} (h : x.ok 12 = true) : Small x := by
  obtain ⟨k1, k2, k3, k4⟩ := Mt.ok_parts h
  unfold Small
  omega
set_option maxRecDepth 100000 in
set_option maxHeartbeats 8000000 in
theorem l26Text_c (mb mo : Nat) (x : Mt) (w : World) (hb : Small x) (h0 : w.cell? ⟨mb, mo, none⟩ = some (.int .i64 x.a)) (h1 : w.cell? ⟨mb, mo + 1, none⟩ = some (.int .i64 x.b)) (h2 : w.cell? ⟨mb, mo + 2, none⟩ = some (.int .i64 x.score)) (h3 : w.cell? ⟨mb, mo + 3, none⟩ = some (.bool x.forfeit)) :
    Calls Tryd.prog 47 #[.pointer (some ⟨mb, mo, none⟩)] w fun e w' => e = .returned (.string ⟨(wordsT x).toArray⟩) ∧ Below w.heap.size w w' := by
  obtain ⟨k1, k2, k3⟩ := hb
  obtain ⟨a, b, score, ff⟩ := x
  dsimp only at k1 k2 k3 h0 h1 h2 h3
  have HX : Hid (∀ W, Below w.heap.size w W → W.cell? ⟨mb, mo, none⟩ = some (.int .i64 a) ∧ W.cell? ⟨mb, mo + 1, none⟩ = some (.int .i64 b) ∧ W.cell? ⟨mb, mo + 2, none⟩ = some (.int .i64 score) ∧ W.cell? ⟨mb, mo + 3, none⟩ = some (.bool ff)) := fun W hW =>
    ⟨(hW.cell (show (Addr.mk mb mo none).block < _ from World.block_lt_of_cell? w _ h0)).trans h0, (hW.cell (show (Addr.mk mb (mo + 1) none).block < _ from World.block_lt_of_cell? w _ h1)).trans h1, (hW.cell (show (Addr.mk mb (mo + 2) none).block < _ from World.block_lt_of_cell? w _ h2)).trans h2, (hW.cell (show (Addr.mk mb (mo + 3) none).block < _ from World.block_lt_of_cell? w _ h3)).trans h3⟩
  have HA := Lib.hid (fun W => l01DecI_c a W (by omega))
  have HBc := Lib.hid (fun W => l01DecI_c b W (by omega))
  have HS := Lib.hid (fun W => l01DecI_c score W (by omega))
  have la := itoa_len (x := a) (by omega)
  have lb := itoa_len (x := b) (by omega)
  have ls := itoa_len (x := score) (by omega)
  have HW : Hid (wordsT ⟨a, b, score, ff⟩ = Lib.itoa a ++ [32] ++ Lib.itoa b ++ [32] ++ Lib.itoa score ++ (if ff = true then [32, 102] else [])) := rfl
  obtain ⟨A, hA⟩ : ∃ A, A = Lib.itoa a := ⟨_, rfl⟩
  obtain ⟨B, hB⟩ : ∃ B, B = Lib.itoa b := ⟨_, rfl⟩
  obtain ⟨S, hS⟩ : ∃ S, S = Lib.itoa score := ⟨_, rfl⟩
  rw [← hA] at HA la HW
  rw [← hB] at HBc lb HW
  rw [← hS] at HS ls HW
  have hap := ba_app
  have hsz : ∀ x : List UInt8, (ByteArray.mk x.toArray).size = x.length := str_size
  have HS0 := Lib.hid (HX.out w.drew (Below.refl _ _).drew)
  have HD0 : Hid (Below w.heap.size w w.drew) := (Below.refl _ _).drew
  have n1 : ¬ 9223372036854775807 < A.length + 1 := by omega
  have n2 : ¬ 9223372036854775807 < A.length + 1 + B.length := by omega
  have n3 : ¬ 9223372036854775807 < A.length + (B.length + 1) + 1 := by omega
  have n4 : ¬ 9223372036854775807 < A.length + (B.length + 1 + 1) + S.length := by omega
  clear hA hB hS k1 k2 k3 h0 h1 h2 h3
  go_enter Tryd.func47, Tryd.ntmps47
  go_wp2_with fail
  refine heldH (S := fun V => V.cell? ⟨mb, mo, none⟩ = some (.int .i64 a) ∧ V.cell? ⟨mb, mo + 1, none⟩ = some (.int .i64 b) ∧ V.cell? ⟨mb, mo + 2, none⟩ = some (.int .i64 score) ∧ V.cell? ⟨mb, mo + 3, none⟩ = some (.bool ff)) (n := 20) (listed := #[false, false, false, false, false, false, false, false, false, false, false, false, false, false, false, false, false, false, false, false]) (by kernel_rfl) (by rfl) (by rfl) ?_ (fun hHeld => ?_)
  (focus ((try dsimp only); (first | done | ((first | exact HS3.out | exact HS2.out | exact HS1.out | exact HS0.out); done))))
  (refine takeH (i := 0) (v := ?_) (by decide +kernel) (by decide +kernel) (by kernel_rfl) (by rfl) (by exact fun _ _ _ h => h) (by rfl) ?_ (by assumption) ?_); rotate_left; (focus (intro w hSw; (try dsimp only at hSw); go_simp; (try with_reducible rfl); done)); (try simp only [Act.put, List.setIfInBounds_toArray, List.set_cons_zero, List.set_cons_succ])
  (refine takeH (i := 1) (v := ?_) (by decide +kernel) (by decide +kernel) (by kernel_rfl) (by rfl) (by exact fun _ _ _ h => h) (by rfl) ?_ (by assumption) ?_); rotate_left; (focus (intro w hSw; (try dsimp only at hSw); go_simp; (try with_reducible rfl); done)); (try simp only [Act.put, List.setIfInBounds_toArray, List.set_cons_zero, List.set_cons_succ])
  (refine takeH (i := 2) (v := ?_) (by decide +kernel) (by decide +kernel) (by kernel_rfl) (by rfl) (by exact fun _ _ _ h => h) (by rfl) ?_ (by assumption) ?_); rotate_left; (focus (intro w hSw; (try dsimp only at hSw); go_simp; (try with_reducible rfl); done)); (try simp only [Act.put, List.setIfInBounds_toArray, List.set_cons_zero, List.set_cons_succ])
  (refine takeH (i := 3) (v := ?_) (by decide +kernel) (by decide +kernel) (by kernel_rfl) (by rfl) (by exact fun _ _ _ h => h) (by rfl) ?_ (by assumption) ?_); rotate_left; (focus (intro w hSw; (try dsimp only at hSw); go_simp; (try with_reducible rfl); done)); (try simp only [Act.put, List.setIfInBounds_toArray, List.set_cons_zero, List.set_cons_succ])
  (refine takeH (i := 6) (v := ?_) (by decide +kernel) (by decide +kernel) (by kernel_rfl) (by rfl) (by exact fun _ _ _ h => h) (by rfl) ?_ (by assumption) ?_); rotate_left; (focus (intro w hSw; (try dsimp only at hSw); go_simp; (try with_reducible rfl); done)); (try simp only [Act.put, List.setIfInBounds_toArray, List.set_cons_zero, List.set_cons_succ])
  (refine takeH (i := 7) (v := ?_) (by decide +kernel) (by decide +kernel) (by kernel_rfl) (by rfl) (by exact fun _ _ _ h => h) (by rfl) ?_ (by assumption) ?_); rotate_left; (focus (intro w hSw; (try dsimp only at hSw); go_simp; (try with_reducible rfl); done)); (try simp only [Act.put, List.setIfInBounds_toArray, List.set_cons_zero, List.set_cons_succ])
  (refine takeH (i := 8) (v := ?_) (by decide +kernel) (by decide +kernel) (by kernel_rfl) (by rfl) (by exact fun _ _ _ h => h) (by rfl) ?_ (by assumption) ?_); rotate_left; (focus (intro w hSw; (try dsimp only at hSw); go_simp; (try with_reducible rfl); done)); (try simp only [Act.put, List.setIfInBounds_toArray, List.set_cons_zero, List.set_cons_succ])
  (refine takeH (i := 9) (v := ?_) (by decide +kernel) (by decide +kernel) (by kernel_rfl) (by rfl) (by exact fun _ _ _ h => h) (by rfl) ?_ (by assumption) ?_); rotate_left; (focus (intro w hSw; (try dsimp only at hSw); go_simp; (try with_reducible rfl); done)); (try simp only [Act.put, List.setIfInBounds_toArray, List.set_cons_zero, List.set_cons_succ])
  (refine takeH (i := 13) (v := ?_) (by decide +kernel) (by decide +kernel) (by kernel_rfl) (by rfl) (by exact fun _ _ _ h => h) (by rfl) ?_ (by assumption) ?_); rotate_left; (focus (intro w hSw; (try dsimp only at hSw); go_simp; (try with_reducible rfl); done)); (try simp only [Act.put, List.setIfInBounds_toArray, List.set_cons_zero, List.set_cons_succ])
  (refine takeH (i := 14) (v := ?_) (by decide +kernel) (by decide +kernel) (by kernel_rfl) (by rfl) (by exact fun _ _ _ h => h) (by rfl) ?_ (by assumption) ?_); rotate_left; (focus (intro w hSw; (try dsimp only at hSw); go_simp; (try with_reducible rfl); done)); (try simp only [Act.put, List.setIfInBounds_toArray, List.set_cons_zero, List.set_cons_succ])
  (refine takeH (i := 15) (v := ?_) (by decide +kernel) (by decide +kernel) (by kernel_rfl) (by rfl) (by exact fun _ _ _ h => h) (by rfl) ?_ (by assumption) ?_); rotate_left; (focus (intro w hSw; (try dsimp only at hSw); go_simp; (try with_reducible rfl); done)); (try simp only [Act.put, List.setIfInBounds_toArray, List.set_cons_zero, List.set_cons_succ])
  (refine takeH (i := 16) (v := ?_) (by decide +kernel) (by decide +kernel) (by kernel_rfl) (by rfl) (by exact fun _ _ _ h => h) (by rfl) ?_ (by assumption) ?_); rotate_left; (focus (intro w hSw; (try dsimp only at hSw); go_simp; (try with_reducible rfl); done)); (try simp only [Act.put, List.setIfInBounds_toArray, List.set_cons_zero, List.set_cons_succ])
  refine nextH (i := 4) (by decide +kernel) (by rfl) (by rfl) (fun K hK => ?_)
  (go_simp; go_at_call 33; (refine (HA.out _).mono ?_); (rintro e w1 ⟨rfl, hb1⟩); (have HB1 := Lib.hid (below_next HD0.out hb1)); (have HS1 := Lib.hid (HX.out _ HB1.out)); (clear hb1))
  refine hK.out _ _ ?_ (fun hHeld' => ?_)
  (focus ((try dsimp only); (first | done | ((first | exact HS3.out | exact HS2.out | exact HS1.out | exact HS0.out); done))))
  clear hK K hHeld
  have hHeld := hHeld'
  clear hHeld'
  (try simp only [Act.put, List.setIfInBounds_toArray, List.set_cons_zero, List.set_cons_succ])
  (refine takeH (i := 5) (v := ?_) (by decide +kernel) (by decide +kernel) (by kernel_rfl) (by rfl) (by exact fun _ _ _ h => h) (by rfl) ?_ (by assumption) ?_); rotate_left; (focus (intro w hSw; (try dsimp only at hSw); go_simp; (try with_reducible rfl); done)); (try simp only [Act.put, List.setIfInBounds_toArray, List.set_cons_zero, List.set_cons_succ])
  refine nextH (i := 10) (by decide +kernel) (by rfl) (by rfl) (fun K hK => ?_)
  (go_simp; go_at_call 33; (refine (HBc.out _).mono ?_); (rintro e w2 ⟨rfl, hb2⟩); (have HB2 := Lib.hid (below_next HB1.out hb2)); (have HS2 := Lib.hid (HX.out _ HB2.out)); (clear hb2))
  refine hK.out _ _ ?_ (fun hHeld' => ?_)
  (focus ((try dsimp only); (first | done | ((first | exact HS3.out | exact HS2.out | exact HS1.out | exact HS0.out); done))))
  clear hK K hHeld
  have hHeld := hHeld'
  clear hHeld'
  (try simp only [Act.put, List.setIfInBounds_toArray, List.set_cons_zero, List.set_cons_succ])
  (refine takeH (i := 11) (v := ?_) (by decide +kernel) (by decide +kernel) (by kernel_rfl) (by rfl) (by exact fun _ _ _ h => h) (by rfl) ?_ (by assumption) ?_); rotate_left; (focus (intro w hSw; (try dsimp only at hSw); go_simp; (try with_reducible rfl); done)); (try simp only [Act.put, List.setIfInBounds_toArray, List.set_cons_zero, List.set_cons_succ])
  (refine takeH (i := 12) (v := ?_) (by decide +kernel) (by decide +kernel) (by kernel_rfl) (by rfl) (by exact fun _ _ _ h => h) (by rfl) ?_ (by assumption) ?_); rotate_left; (focus (intro w hSw; (try dsimp only at hSw); go_simp; (try with_reducible rfl); done)); (try simp only [Act.put, List.setIfInBounds_toArray, List.set_cons_zero, List.set_cons_succ])
  refine nextH (i := 17) (by decide +kernel) (by rfl) (by rfl) (fun K hK => ?_)
  (go_simp; go_at_call 33; (refine (HS.out _).mono ?_); (rintro e w3 ⟨rfl, hb3⟩); (have HB3 := Lib.hid (below_next HB2.out hb3)); (have HS3 := Lib.hid (HX.out _ HB3.out)); (clear hb3))
  refine hK.out _ _ ?_ (fun hHeld' => ?_)
  (focus ((try dsimp only); (first | done | ((first | exact HS3.out | exact HS2.out | exact HS1.out | exact HS0.out); done))))
  clear hK K hHeld
  have hHeld := hHeld'
  clear hHeld'
  (try simp only [Act.put, List.setIfInBounds_toArray, List.set_cons_zero, List.set_cons_succ])
  (refine takeH (i := 18) (v := ?_) (by decide +kernel) (by decide +kernel) (by kernel_rfl) (by rfl) (by exact fun _ _ _ h => h) (by rfl) ?_ (by assumption) ?_); rotate_left; (focus (intro w hSw; (try dsimp only at hSw); go_simp; (try with_reducible rfl); done)); (try simp only [Act.put, List.setIfInBounds_toArray, List.set_cons_zero, List.set_cons_succ])
  (refine takeH (i := 19) (v := ?_) (by decide +kernel) (by decide +kernel) (by kernel_rfl) (by rfl) (by exact fun _ _ _ h => h) (by rfl) ?_ (by assumption) ?_); rotate_left; (focus (intro w hSw; (try dsimp only at hSw); go_simp; (try with_reducible rfl); done)); (try simp only [Act.put, List.setIfInBounds_toArray, List.set_cons_zero, List.set_cons_succ])
  refine wpAnyH_done (by decide +kernel) ?_ _
  clear hHeld
  obtain ⟨c0, c1, c2, c3⟩ := HS3.out
  clear HS0 HS1 HS2 HS3
  cases ff
  · go_wp2
    go_ret
    exact ⟨by rw [HW.out]; simp, HB3.out⟩
  · go_wp2
    go_ret
    exact ⟨by rw [HW.out]; simp, HB3.out⟩

set_option maxRecDepth 100000 in
set_option maxHeartbeats 8000000 in
theorem sMatchText_c (x : Mt) (w : World) : Calls Tryd.prog 26 #[x.val] w fun e w' => e = .returned (.string ⟨(mT x).toArray⟩) ∧ Below w.heap.size w w' := by
  have HBX : Hid (BoxP w.heap.size x.cells.toList (w.alloc (.cells x.cells 45))) := ((Fr.start w).alloc x.cells 45).at 0 rfl
  have HB0 : Hid (Below w.heap.size w (w.alloc (.cells x.cells 45))) := below_alloc1 _ _
  have HV := Lib.hid (l26Match_c 12 w.heap.size 0 x (w.alloc (.cells x.cells 45)) (by omega) (HBX.out 0 _ rfl) (HBX.out 1 _ rfl) (HBX.out 2 _ rfl))
  cases hv : x.ok 12 with
  | false =>
    have HF : Hid (mT x = []) := by unfold Hid mT; rw [if_neg (by rw [hv]; simp)]
    rw [hv] at HV
    clear hv
    obtain ⟨a, b, score, ff⟩ := x
    go_enter Tryd.func26, Tryd.ntmps26
    go_wp2_with fail
    refine HV.out.mono ?_
    rintro e w1 ⟨rfl, m, rfl⟩
    have HB := Lib.hid (below_next HB0.out (below_draws _ _ m))
    clear HV
    go_wp2
    go_ret
    exact ⟨by rw [HF.out]; rfl, HB.out⟩
  | true =>
    have HF : Hid (mT x = wordsT x) := by unfold Hid mT; rw [if_pos hv]
    rw [hv] at HV
    have HT := Lib.hid (fun m => l26Text_c w.heap.size 0 x ((w.alloc (.cells x.cells 45)).drewN m) (small_ok hv) (HBX.out 0 _ rfl) (HBX.out 1 _ rfl) (HBX.out 2 _ rfl) (HBX.out 3 _ rfl))
    clear hv
    obtain ⟨a, b, score, ff⟩ := x
    go_enter Tryd.func26, Tryd.ntmps26
    go_wp2_with fail
    refine HV.out.mono ?_
    rintro e w1 ⟨rfl, m, rfl⟩
    have HB := Lib.hid (below_next HB0.out (below_draws _ _ m))
    clear HV
    go_wp2_with fail
    refine (HT.out m).mono ?_
    rintro e w2 ⟨rfl, hb2⟩
    have HB2 := Lib.hid (below_next HB.out hb2)
    clear hb2 HT HB
    go_wp2
    go_ret
    exact ⟨by rw [HF.out]; rfl, HB2.out⟩

end Go.Proofs.YtbjgigdkbjabaaaDoor
