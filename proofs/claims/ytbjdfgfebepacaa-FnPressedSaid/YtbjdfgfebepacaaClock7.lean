/- Clock7: the time that a running clock takes. Each contract holds for every argument, under the premises that it states. -/
import Derived.Test.YtbjdfgfebepacaaClock6
import Derived.Test.YtbjdfgfebepacaaFrame
import Derived.Outline
import Derived.Test.YtbjdfgfebepacaaHeld
namespace Go.Proofs.Ytbjdfgfebepacaa
set_option linter.unusedSimpArgs false
set_option linter.unusedVariables false
set_option linter.unnecessarySimpa false
open Go.RowKit Go.ChangeShapes Go.WideShapes Go.ChangeAt Go.Joins

set_option maxHeartbeats 4000000 in
theorem taken_c (p q xi xd xp xs : Int) (xf : Bool) (a : Option Addr) (c : Nat) (now : Int) (w : World) (h : Ints w a [p, q]) (hp : 0 ≤ p ∧ p ≤ 36000000) (hq : 0 ≤ q ∧ q ≤ 36000000) (hd : 0 ≤ xd ∧ xd ≤ 36000000) (hs : 0 ≤ xs ∧ xs ≤ 36000000) (hn : xs ≤ now ∧ now ≤ 36000000) (hpl : 0 ≤ xp ∧ xp ≤ 1) :
    Calls Try.prog 126 #[(Ck.mk [p, q] xi xd xp xs true xf).val a c, .int .i64 now] w fun e w' => e = .returned (.int .i64 (min (max (now - xs - xd) 0) (pick2 xp p q))) ∧ Below w.heap.size w w' := by
  obtain ⟨b, o, rfl, hb, c0, c1⟩ := ints_two h
  obtain ⟨p0, p1⟩ := hp
  obtain ⟨q0, q1⟩ := hq
  obtain ⟨d0, d1⟩ := hd
  obtain ⟨s0, s1⟩ := hs
  obtain ⟨n0, n1⟩ := hn
  clear h
  have hp01 : xp = 0 ∨ xp = 1 := by omega
  clear hpl
  rcases hp01 with rfl | rfl
  all_goals
    have e1 : IntKind.i64.wrap (now - xs) = now - xs := IntWalk.i64_in _ (by omega)
    have e2 : IntKind.i64.wrap (now - xs - xd) = now - xs - xd := IntWalk.i64_in _ (by omega)
    go_enter Try.func126, Try.ntmps126
    go_wp2
    go_quiet (fail)
    clear e1 e2
    go_wp2
    all_goals go_ret
    all_goals refine ⟨ret_int ?_, (below_alloc1 _ _).trans (below_draws _ _ _)⟩
    all_goals (simp [pick2]; omega)

theorem l00Max_c (m n : Int) (w : World) : Calls Try.prog 177 #[.int .i64 m, .int .i64 n] w fun e w' => e = .returned (.int .i64 (max m n)) ∧ w = w' := by
  go_enter Try.func177, Try.ntmps177
  go_wp2
  all_goals go_ret
  all_goals refine ⟨ret_int ?_, rfl⟩
  all_goals omega
theorem l00Min_c (m n : Int) (w : World) : Calls Try.prog 120 #[.int .i64 m, .int .i64 n] w fun e w' => e = .returned (.int .i64 (min m n)) ∧ w = w' := by
  go_enter Try.func120, Try.ntmps120
  go_wp2
  all_goals go_ret
  all_goals refine ⟨ret_int ?_, rfl⟩
  all_goals omega
/-- what is left of a running clock -/
def leftQ (x : Ck) (p q now : Int) : Int := max 0 (pick2 x.player p q - max 0 (now - x.since - x.delay))
def useQ (x : Ck) (p q now : Int) : Ck := if leftQ x p q now = 0 then ⟨set2 x.player p q 0, x.inc, x.delay, x.player, 0, false, true⟩ else { x with left := set2 x.player p q (leftQ x p q now) }
def useP (x : Ck) (now : Int) : Ck := match x.left with | [p, q] => useQ x p q now | _ => Ck.zero
def chargedP (x : Ck) (now : Int) : Ck × Int := if x.code now true = 0 then (useP x now, 0) else (Ck.zero, x.code now true)
theorem Ck.ok_run {x : Ck} (h : x.ok = true) (hr : x.running = true) : x.fallen = false := by
  unfold Ck.ok at h
  split at h
  · rename_i p q e
    simp only [Bool.and_eq_true] at h
    have h2 := h.2
    unfold Ck.rest at h2
    cases hf : x.fallen
    · rfl
    · rw [hf] at h2; simp [hr] at h2
  · cases h

theorem taken_eq (x : Ck) (p q now : Int) (hp : 0 ≤ p) (hq : 0 ≤ q) : pick2 x.player p q - min (max (now - x.since - x.delay) 0) (pick2 x.player p q) = leftQ x p q now := by
  unfold leftQ pick2; split <;> omega
set_option maxRecDepth 100000 in
set_option maxHeartbeats 8000000 in
theorem charged_c (x : Ck) (a : Option Addr) (c : Nat) (now : Int) (w : World) (h : Ints w a x.left) (hm : x.left.length ≤ 16777216) :
    Calls Try.prog 117 #[x.val a c, .int .i64 now] w (CkRes w (chargedP x now)) := by
  go_enter Try.func117, Try.ntmps117
  go_wp2_with fail
  refine (ValidClock_c x a c _ (h.below (below_alloc2 _ _ _) (Nat.le_refl _)) (by unfold maxLen; omega)).mono ?_
  rintro e w1 ⟨rfl, hb1⟩
  have hW1 : Below w.heap.size w w1 := below_next (below_alloc2 _ _ _) hb1
  obtain ⟨hc1, hf1⟩ := bcell hb1
  simp only [World.size_alloc] at hc1 hf1
  have hz1b : w.heap.size + 1 < w1.heap.size := by have := hb1.size; simp at this; omega
  have hz1a : w.heap.size < w1.heap.size := by omega
  cases hok : x.ok
  · have HP := Lib.hid (show chargedP x now = (Ck.zero, 1) by simp [chargedP, Ck.code, hok])
    clear hok
    go_wp2
    refine bodyPost_ret (v := .tuple #[Ck.zero.val none 0, .int .i64 1]) (by simp [results, Try.results117, go_sem, hc1, hz1b, Ck.val, Ck.cells, Ck.zero]) rfl ?_
    unfold CkRes
    rw [HP.out]
    refine ⟨none, 0, rfl, ownI_nil _ _, ?_⟩
    repeat (first | (with_reducible exact hW1) | ((with_reducible refine Below.setCell ?_ ?_ _); rotate_left; (simp <;> omega)))
  have HK := Lib.hid hok
  have HRF := Lib.hid (fun hr => Ck.ok_run hok hr)
  obtain ⟨p, q, hl, ⟨hp0, hp1⟩, ⟨hq0, hq1⟩, ⟨hi0, hi1⟩, ⟨hd0, hd1⟩, ⟨hs0, hs1⟩, ⟨hx0, hx1⟩⟩ := Ck.ok_parts hok
  clear hok
  obtain ⟨xl, xi, xd, xp, xs, xr, xf⟩ := x
  simp only at hl hi0 hi1 hd0 hd1 hs0 hs1 hx0 hx1
  subst hl
  go_wp2_with fail
  refine (isNow_c ⟨[p, q], xi, xd, xp, xs, xr, xf⟩ a c now _).mono ?_
  rintro e w2 ⟨rfl, hb2⟩
  have hW2 : Below w.heap.size w w2 := below_next hW1 hb2
  obtain ⟨hc2, hf2⟩ := bcell hb2
  have hz2b : w.heap.size + 1 < w2.heap.size := by have := hb2.size; omega
  have hz2a : w.heap.size < w2.heap.size := by omega
  cases hnow : inB now xs 36000000
  · have HP := Lib.hid (show chargedP ⟨[p, q], xi, xd, xp, xs, xr, xf⟩ now = (Ck.zero, 2) by simp [chargedP, Ck.code, HK.out, hnow])
    clear hnow
    go_wp2
    refine bodyPost_ret (v := .tuple #[Ck.zero.val none 0, .int .i64 2]) (by simp [results, Try.results117, go_sem, hc1, hc2, hz1a, hz1b, hz2b, Ck.val, Ck.cells, Ck.zero]) rfl ?_
    unfold CkRes
    rw [HP.out]
    refine ⟨none, 0, rfl, ownI_nil _ _, ?_⟩
    repeat (first | (with_reducible exact hW2) | ((with_reducible refine Below.setCell ?_ ?_ _); rotate_left; (simp <;> omega)))
  have HN := Lib.hid hnow
  obtain ⟨hn0, hn1⟩ := inB_iff.1 hnow
  clear hnow
  cases xr
  · have HP := Lib.hid (show chargedP ⟨[p, q], xi, xd, xp, xs, false, xf⟩ now = (Ck.zero, 6) by simp only [chargedP, Ck.code]; rw [HK.out, HN.out]; rfl)
    go_wp2
    refine bodyPost_ret (v := .tuple #[Ck.zero.val none 0, .int .i64 6]) (by simp [results, Try.results117, go_sem, hc1, hc2, hz1a, hz1b, hz2b, Ck.val, Ck.cells, Ck.zero]) rfl ?_
    unfold CkRes
    rw [HP.out]
    refine ⟨none, 0, rfl, ownI_nil _ _, ?_⟩
    repeat (first | (with_reducible exact hW2) | ((with_reducible refine Below.setCell ?_ ?_ _); rotate_left; (simp <;> omega)))
  obtain rfl : xf = false := HRF.out rfl
  have HP := Lib.hid (show chargedP ⟨[p, q], xi, xd, xp, xs, true, false⟩ now = (useQ ⟨[p, q], xi, xd, xp, xs, true, false⟩ p q now, 0) by simp only [chargedP, Ck.code]; rw [HK.out, HN.out]; rfl)
  have HT := Lib.hid (taken_eq ⟨[p, q], xi, xd, xp, xs, true, false⟩ p q now hp0 hq0)
  have hx01 : xp = 0 ∨ xp = 1 := by omega
  rcases hx01 with rfl | rfl
  · go_wp2_with fail
    refine (ckCopied_c ⟨[p, q], xi, xd, 0, xs, true, false⟩ _ c _ (h.below hW2 (Nat.le_refl _)) hm).mono ?_
    rintro e w3 ⟨a', c', rfl, ho3, hb3⟩
    have hW3 : Below w.heap.size w w3 := below_next hW2 hb3
    obtain ⟨hc3, hf3⟩ := bcell hb3
    have hz3b : w.heap.size + 1 < w3.heap.size := by have := hb3.size; omega
    have hz3a : w.heap.size < w3.heap.size := by omega
    obtain ⟨g, rfl, hg1, hg2, k0, k1, f0, f1, st0, st1⟩ := own_two ho3
    have ne1 : ¬ g = w3.heap.size := by omega
    have ne2 : ¬ w3.heap.size = g := by omega
    have ne3 : ¬ g = w.heap.size + 1 := by omega
    have ne4 : ¬ w.heap.size + 1 = g := by omega
    have ne5 : ¬ g = w.heap.size := by omega
    have ne6 : ¬ w.heap.size = g := by omega
    have HO3b := Lib.hid ho3
    have hS3 := Lib.hid hb3.size
    obtain ⟨T, hcall, hsub⟩ : ∃ T, (∀ W, Ints W a [p, q] → Calls Try.prog 126 #[(Ck.mk [p, q] xi xd 0 xs true false).val a c, .int .i64 now] W fun e w' => e = .returned (.int .i64 T) ∧ Below W.heap.size W w') ∧ p - T = leftQ ⟨[p, q], xi, xd, 0, xs, true, false⟩ p q now :=
      ⟨_, fun W hW => taken_c p q xi xd 0 xs false a c now W hW ⟨hp0, hp1⟩ ⟨hq0, hq1⟩ ⟨hd0, hd1⟩ ⟨hs0, hs1⟩ ⟨hn0, hn1⟩ ⟨by omega, by omega⟩, HT.out⟩
    have HCALL := Lib.hid hcall
    obtain ⟨L, hL⟩ : ∃ L, L = leftQ ⟨[p, q], xi, xd, 0, xs, true, false⟩ p q now := ⟨_, rfl⟩
    rw [← hL] at hsub
    have hL0 : 0 ≤ L ∧ L ≤ 36000000 := by
      rw [hL]; unfold leftQ pick2; simp; omega
    obtain ⟨hL0, hL1⟩ := hL0
    have es : IntKind.i64.wrap (p - T) = L := by rw [hsub]; exact IntWalk.i64_in _ (by omega)
    have HU := Lib.hid (show useQ ⟨[p, q], xi, xd, 0, xs, true, false⟩ p q now = if L = 0 then ⟨set2 0 p q 0, xi, xd, 0, 0, false, true⟩ else ⟨set2 0 p q L, xi, xd, 0, xs, true, false⟩ by unfold useQ; rw [← hL])
    clear st0 st1 ho3 hcall hL hsub
    go_wp2
    refine heldH (S := fun w' => ∀ b o, b < w3.heap.size + 1 → ¬ b = g → w'.cell? ⟨b, o, none⟩ = (w3.alloc (.cells (Ck.cells ⟨[p, q], xi, xd, 0, xs, true, false⟩ (some ⟨g, 0, none⟩) c') 53)).cell? ⟨b, o, none⟩) (n := 12) (listed := #[false, false, false, false, false, false, false, false, false, false, false, false]) (by kernel_rfl) (by rfl) (by rfl) ?_ (fun hHeld => ?_)
    (focus ((try dsimp only); (first | done | ((first | exact hcA | (intro b o h1 h2; rfl) | (intro b o h1 h2; exact (cell_other h2).trans (hcA b o h1 h2))); done))))
    (refine takeH (i := 0) (v := ?_) (by decide +kernel) (by decide +kernel) (by kernel_rfl) (by rfl) (by exact fun _ _ _ h => h) (by rfl) ?_ (by assumption) ?_); rotate_left; (focus (intro w hSw; (try dsimp only at hSw); go_simp; (try with_reducible rfl); done)); (try simp only [Act.put, List.setIfInBounds_toArray, List.set_cons_zero, List.set_cons_succ])
    (refine takeH (i := 1) (v := ?_) (by decide +kernel) (by decide +kernel) (by kernel_rfl) (by rfl) (by exact fun _ _ _ h => h) (by rfl) ?_ (by assumption) ?_); rotate_left; (focus (intro w hSw; (try dsimp only at hSw); go_simp; (try with_reducible rfl); done)); (try simp only [Act.put, List.setIfInBounds_toArray, List.set_cons_zero, List.set_cons_succ])
    (refine takeH (i := 2) (v := ?_) (by decide +kernel) (by decide +kernel) (by kernel_rfl) (by rfl) (by exact fun _ _ _ h => h) (by rfl) ?_ (by assumption) ?_); rotate_left; (focus (intro w hSw; (try dsimp only at hSw); go_simp; (try with_reducible rfl); done)); (try simp only [Act.put, List.setIfInBounds_toArray, List.set_cons_zero, List.set_cons_succ])
    (refine takeH (i := 3) (v := ?_) (by decide +kernel) (by decide +kernel) (by kernel_rfl) (by rfl) (by exact fun _ _ _ h => h) (by rfl) ?_ (by assumption) ?_); rotate_left; (focus (intro w hSw; (try dsimp only at hSw); go_simp; (try with_reducible rfl); done)); (try simp only [Act.put, List.setIfInBounds_toArray, List.set_cons_zero, List.set_cons_succ])
    (refine takeH (i := 4) (v := ?_) (by decide +kernel) (by decide +kernel) (by kernel_rfl) (by rfl) (by exact fun _ _ _ h => h) (by rfl) ?_ (by assumption) ?_); rotate_left; (focus (intro w hSw; (try dsimp only at hSw); go_simp; (try with_reducible rfl); done)); (try simp only [Act.put, List.setIfInBounds_toArray, List.set_cons_zero, List.set_cons_succ])
    (refine takeH (i := 6) (v := ?_) (by decide +kernel) (by decide +kernel) (by kernel_rfl) (by rfl) (by exact fun _ _ _ h => h) (by rfl) ?_ (by assumption) ?_); rotate_left; (focus (intro w hSw; (try dsimp only at hSw); go_simp; (try with_reducible rfl); done)); (try simp only [Act.put, List.setIfInBounds_toArray, List.set_cons_zero, List.set_cons_succ])
    (refine takeH (i := 7) (v := ?_) (by decide +kernel) (by decide +kernel) (by kernel_rfl) (by rfl) (by exact fun _ _ _ h => h) (by rfl) ?_ (by assumption) ?_); rotate_left; (focus (intro w hSw; (try dsimp only at hSw); go_simp; (try with_reducible rfl); done)); (try simp only [Act.put, List.setIfInBounds_toArray, List.set_cons_zero, List.set_cons_succ])
    refine bothH (i := 5) (j := 8) (by decide +kernel) (by rfl) (by rfl) (by rfl) (by rfl) (fun K hK => ?_) (fun K hK => ?_)
    go_simp
    (first | (go_at_call 126; refine (HCALL.out _ (h.below ((hW3.alloc (by omega) _).drew) (Nat.le_refl _))).mono ?_; rintro e w5 ⟨rfl, hb5⟩; have hcA : ∀ b o, b < w3.heap.size + 1 → ¬ b = g → w5.cell? ⟨b, o, none⟩ = (w3.alloc (.cells (Ck.cells ⟨[p, q], xi, xd, 0, xs, true, false⟩ (some ⟨g, 0, none⟩) c') 53)).cell? ⟨b, o, none⟩ := fun b o h1 h2 => (bcell hb5).1 b o (by simpa using h1); have kg0 : w5.cell? ⟨g, 0, none⟩ = some (.int .i64 p) := ((bcell hb5).1 g 0 (Nat.lt_of_lt_of_le hg2 (by simp))).trans (by simp [go_sem, hg2, k0]); have kg1 : w5.cell? ⟨g, 1, none⟩ = some (.int .i64 q) := ((bcell hb5).1 g 1 (Nat.lt_of_lt_of_le hg2 (by simp))).trans (by simp [go_sem, hg2, k1]); have fg0 : w5.frozen? ⟨g, 0, none⟩ = false := ((bcell hb5).2 g 0 (Nat.lt_of_lt_of_le hg2 (by simp))).trans (by simp [go_sem, hg2, f0]); have fg1 : w5.frozen? ⟨g, 1, none⟩ = false := ((bcell hb5).2 g 1 (Nat.lt_of_lt_of_le hg2 (by simp))).trans (by simp [go_sem, hg2, f1])) | skip)
    refine hK.out _ _ ?_ (fun hHeld' => ?_)
    (focus ((try dsimp only); (first | done | ((first | exact hcA | (intro b o h1 h2; rfl) | (intro b o h1 h2; exact (cell_other h2).trans (hcA b o h1 h2))); done))))
    clear hK K hHeld
    have hHeld := hHeld'
    clear hHeld'
    (try simp only [Act.put, List.setIfInBounds_toArray, List.set_cons_zero, List.set_cons_succ])
    refine nextH (i := 8) (by decide +kernel) (by rfl) (by rfl) (fun K hK => ?_)
    go_simp
    (first | (go_at_call 126; refine (HCALL.out _ (h.below ((hW3.alloc (by omega) _).drew) (Nat.le_refl _))).mono ?_; rintro e w5 ⟨rfl, hb5⟩; have hcA : ∀ b o, b < w3.heap.size + 1 → ¬ b = g → w5.cell? ⟨b, o, none⟩ = (w3.alloc (.cells (Ck.cells ⟨[p, q], xi, xd, 0, xs, true, false⟩ (some ⟨g, 0, none⟩) c') 53)).cell? ⟨b, o, none⟩ := fun b o h1 h2 => (bcell hb5).1 b o (by simpa using h1); have kg0 : w5.cell? ⟨g, 0, none⟩ = some (.int .i64 p) := ((bcell hb5).1 g 0 (Nat.lt_of_lt_of_le hg2 (by simp))).trans (by simp [go_sem, hg2, k0]); have kg1 : w5.cell? ⟨g, 1, none⟩ = some (.int .i64 q) := ((bcell hb5).1 g 1 (Nat.lt_of_lt_of_le hg2 (by simp))).trans (by simp [go_sem, hg2, k1]); have fg0 : w5.frozen? ⟨g, 0, none⟩ = false := ((bcell hb5).2 g 0 (Nat.lt_of_lt_of_le hg2 (by simp))).trans (by simp [go_sem, hg2, f0]); have fg1 : w5.frozen? ⟨g, 1, none⟩ = false := ((bcell hb5).2 g 1 (Nat.lt_of_lt_of_le hg2 (by simp))).trans (by simp [go_sem, hg2, f1])) | skip)
    refine hK.out _ _ ?_ (fun hHeld' => ?_)
    (focus ((try dsimp only); (first | done | ((first | exact hcA | (intro b o h1 h2; rfl) | (intro b o h1 h2; exact (cell_other h2).trans (hcA b o h1 h2))); done))))
    clear hK K hHeld
    have hHeld := hHeld'
    clear hHeld'
    (try simp only [Act.put, List.setIfInBounds_toArray, List.set_cons_zero, List.set_cons_succ])
    (refine takeH (i := 9) (v := ?_) (by decide +kernel) (by decide +kernel) (by kernel_rfl) (by rfl) (by exact fun _ _ _ h => h) (by rfl) ?_ (by assumption) ?_); rotate_left; (focus (intro w hSw; (try dsimp only at hSw); go_simp; (try with_reducible rfl); done)); (try simp only [Act.put, List.setIfInBounds_toArray, List.set_cons_zero, List.set_cons_succ])
    (refine takeH (i := 10) (v := ?_) (by decide +kernel) (by decide +kernel) (by kernel_rfl) (by rfl) (by exact fun _ _ _ h => h) (by rfl) ?_ (by assumption) ?_); rotate_left; (focus (intro w hSw; (try dsimp only at hSw); go_simp; (try with_reducible rfl); done)); (try simp only [Act.put, List.setIfInBounds_toArray, List.set_cons_zero, List.set_cons_succ])
    refine nextH (i := 11) (by decide +kernel) (by rfl) (by rfl) (fun K hK => ?_)
    go_simp
    (first | (go_at_call 126; refine (HCALL.out _ (h.below ((hW3.alloc (by omega) _).drew) (Nat.le_refl _))).mono ?_; rintro e w5 ⟨rfl, hb5⟩; have hcA : ∀ b o, b < w3.heap.size + 1 → ¬ b = g → w5.cell? ⟨b, o, none⟩ = (w3.alloc (.cells (Ck.cells ⟨[p, q], xi, xd, 0, xs, true, false⟩ (some ⟨g, 0, none⟩) c') 53)).cell? ⟨b, o, none⟩ := fun b o h1 h2 => (bcell hb5).1 b o (by simpa using h1); have kg0 : w5.cell? ⟨g, 0, none⟩ = some (.int .i64 p) := ((bcell hb5).1 g 0 (Nat.lt_of_lt_of_le hg2 (by simp))).trans (by simp [go_sem, hg2, k0]); have kg1 : w5.cell? ⟨g, 1, none⟩ = some (.int .i64 q) := ((bcell hb5).1 g 1 (Nat.lt_of_lt_of_le hg2 (by simp))).trans (by simp [go_sem, hg2, k1]); have fg0 : w5.frozen? ⟨g, 0, none⟩ = false := ((bcell hb5).2 g 0 (Nat.lt_of_lt_of_le hg2 (by simp))).trans (by simp [go_sem, hg2, f0]); have fg1 : w5.frozen? ⟨g, 1, none⟩ = false := ((bcell hb5).2 g 1 (Nat.lt_of_lt_of_le hg2 (by simp))).trans (by simp [go_sem, hg2, f1])) | skip)
    refine hK.out _ _ ?_ (fun hHeld' => ?_)
    (focus ((try dsimp only); (first | done | ((first | exact hcA | (intro b o h1 h2; rfl) | (intro b o h1 h2; exact (cell_other h2).trans (hcA b o h1 h2))); done))))
    clear hK K hHeld
    have hHeld := hHeld'
    clear hHeld'
    (try simp only [Act.put, List.setIfInBounds_toArray, List.set_cons_zero, List.set_cons_succ])
    refine wpAnyH_done (by decide +kernel) ?_ _
    rotate_left
    go_simp
    (first | (go_at_call 126; refine (HCALL.out _ (h.below ((hW3.alloc (by omega) _).drew) (Nat.le_refl _))).mono ?_; rintro e w5 ⟨rfl, hb5⟩; have hcA : ∀ b o, b < w3.heap.size + 1 → ¬ b = g → w5.cell? ⟨b, o, none⟩ = (w3.alloc (.cells (Ck.cells ⟨[p, q], xi, xd, 0, xs, true, false⟩ (some ⟨g, 0, none⟩) c') 53)).cell? ⟨b, o, none⟩ := fun b o h1 h2 => (bcell hb5).1 b o (by simpa using h1); have kg0 : w5.cell? ⟨g, 0, none⟩ = some (.int .i64 p) := ((bcell hb5).1 g 0 (Nat.lt_of_lt_of_le hg2 (by simp))).trans (by simp [go_sem, hg2, k0]); have kg1 : w5.cell? ⟨g, 1, none⟩ = some (.int .i64 q) := ((bcell hb5).1 g 1 (Nat.lt_of_lt_of_le hg2 (by simp))).trans (by simp [go_sem, hg2, k1]); have fg0 : w5.frozen? ⟨g, 0, none⟩ = false := ((bcell hb5).2 g 0 (Nat.lt_of_lt_of_le hg2 (by simp))).trans (by simp [go_sem, hg2, f0]); have fg1 : w5.frozen? ⟨g, 1, none⟩ = false := ((bcell hb5).2 g 1 (Nat.lt_of_lt_of_le hg2 (by simp))).trans (by simp [go_sem, hg2, f1])) | skip)
    refine hK.out _ _ ?_ (fun hHeld' => ?_)
    (focus ((try dsimp only); (first | done | ((first | exact hcA | (intro b o h1 h2; rfl) | (intro b o h1 h2; exact (cell_other h2).trans (hcA b o h1 h2))); done))))
    clear hK K hHeld
    have hHeld := hHeld'
    clear hHeld'
    (try simp only [Act.put, List.setIfInBounds_toArray, List.set_cons_zero, List.set_cons_succ])
    refine nextH (i := 5) (by decide +kernel) (by rfl) (by rfl) (fun K hK => ?_)
    go_simp
    (first | (go_at_call 126; refine (HCALL.out _ (h.below ((hW3.alloc (by omega) _).drew) (Nat.le_refl _))).mono ?_; rintro e w5 ⟨rfl, hb5⟩; have hcA : ∀ b o, b < w3.heap.size + 1 → ¬ b = g → w5.cell? ⟨b, o, none⟩ = (w3.alloc (.cells (Ck.cells ⟨[p, q], xi, xd, 0, xs, true, false⟩ (some ⟨g, 0, none⟩) c') 53)).cell? ⟨b, o, none⟩ := fun b o h1 h2 => (bcell hb5).1 b o (by simpa using h1); have kg0 : w5.cell? ⟨g, 0, none⟩ = some (.int .i64 p) := ((bcell hb5).1 g 0 (Nat.lt_of_lt_of_le hg2 (by simp))).trans (by simp [go_sem, hg2, k0]); have kg1 : w5.cell? ⟨g, 1, none⟩ = some (.int .i64 q) := ((bcell hb5).1 g 1 (Nat.lt_of_lt_of_le hg2 (by simp))).trans (by simp [go_sem, hg2, k1]); have fg0 : w5.frozen? ⟨g, 0, none⟩ = false := ((bcell hb5).2 g 0 (Nat.lt_of_lt_of_le hg2 (by simp))).trans (by simp [go_sem, hg2, f0]); have fg1 : w5.frozen? ⟨g, 1, none⟩ = false := ((bcell hb5).2 g 1 (Nat.lt_of_lt_of_le hg2 (by simp))).trans (by simp [go_sem, hg2, f1])) | skip)
    refine hK.out _ _ ?_ (fun hHeld' => ?_)
    (focus ((try dsimp only); (first | done | ((first | exact hcA | (intro b o h1 h2; rfl) | (intro b o h1 h2; exact (cell_other h2).trans (hcA b o h1 h2))); done))))
    clear hK K hHeld
    have hHeld := hHeld'
    clear hHeld'
    (try simp only [Act.put, List.setIfInBounds_toArray, List.set_cons_zero, List.set_cons_succ])
    (refine takeH (i := 9) (v := ?_) (by decide +kernel) (by decide +kernel) (by kernel_rfl) (by rfl) (by exact fun _ _ _ h => h) (by rfl) ?_ (by assumption) ?_); rotate_left; (focus (intro w hSw; (try dsimp only at hSw); go_simp; (try with_reducible rfl); done)); (try simp only [Act.put, List.setIfInBounds_toArray, List.set_cons_zero, List.set_cons_succ])
    (refine takeH (i := 10) (v := ?_) (by decide +kernel) (by decide +kernel) (by kernel_rfl) (by rfl) (by exact fun _ _ _ h => h) (by rfl) ?_ (by assumption) ?_); rotate_left; (focus (intro w hSw; (try dsimp only at hSw); go_simp; (try with_reducible rfl); done)); (try simp only [Act.put, List.setIfInBounds_toArray, List.set_cons_zero, List.set_cons_succ])
    refine nextH (i := 11) (by decide +kernel) (by rfl) (by rfl) (fun K hK => ?_)
    go_simp
    (first | (go_at_call 126; refine (HCALL.out _ (h.below ((hW3.alloc (by omega) _).drew) (Nat.le_refl _))).mono ?_; rintro e w5 ⟨rfl, hb5⟩; have hcA : ∀ b o, b < w3.heap.size + 1 → ¬ b = g → w5.cell? ⟨b, o, none⟩ = (w3.alloc (.cells (Ck.cells ⟨[p, q], xi, xd, 0, xs, true, false⟩ (some ⟨g, 0, none⟩) c') 53)).cell? ⟨b, o, none⟩ := fun b o h1 h2 => (bcell hb5).1 b o (by simpa using h1); have kg0 : w5.cell? ⟨g, 0, none⟩ = some (.int .i64 p) := ((bcell hb5).1 g 0 (Nat.lt_of_lt_of_le hg2 (by simp))).trans (by simp [go_sem, hg2, k0]); have kg1 : w5.cell? ⟨g, 1, none⟩ = some (.int .i64 q) := ((bcell hb5).1 g 1 (Nat.lt_of_lt_of_le hg2 (by simp))).trans (by simp [go_sem, hg2, k1]); have fg0 : w5.frozen? ⟨g, 0, none⟩ = false := ((bcell hb5).2 g 0 (Nat.lt_of_lt_of_le hg2 (by simp))).trans (by simp [go_sem, hg2, f0]); have fg1 : w5.frozen? ⟨g, 1, none⟩ = false := ((bcell hb5).2 g 1 (Nat.lt_of_lt_of_le hg2 (by simp))).trans (by simp [go_sem, hg2, f1])) | skip)
    refine hK.out _ _ ?_ (fun hHeld' => ?_)
    (focus ((try dsimp only); (first | done | ((first | exact hcA | (intro b o h1 h2; rfl) | (intro b o h1 h2; exact (cell_other h2).trans (hcA b o h1 h2))); done))))
    clear hK K hHeld
    have hHeld := hHeld'
    clear hHeld'
    (try simp only [Act.put, List.setIfInBounds_toArray, List.set_cons_zero, List.set_cons_succ])
    refine wpAnyH_done (by decide +kernel) ?_ _
    all_goals
      have hf5 := (bcell hb5).2
      have hW5 : Below w.heap.size w w5 := below_next (hW3.alloc (by omega) _).drew hb5
      have s5 : w3.heap.size < w5.heap.size := by have := hb5.size; simp at this; omega
      have HO5 : OwnI (w5.setCell ⟨g, 0, none⟩ (.int .i64 L)) w2.heap.size (some ⟨g, 0, none⟩) c' (set2 0 p q L) := by
        have k0 := (own_two ((show OwnI (w3.alloc (.cells (Ck.cells ⟨[p, q], xi, xd, 0, xs, true, false⟩ (some ⟨g, 0, none⟩) c') 53)).drew w2.heap.size (some ⟨g, 0, none⟩) c' [p, q] from HO3b.out.alloc _) |> (own_below · hb5 (Nat.le_refl _))))
        obtain ⟨g', hg', _, _, _, _, _, _, st0, st1⟩ := k0
        cases hg'
        exact st0 L
      have HO5 := Lib.hid HO5
      clear hb5 HCALL
      rcases Int.decEq L 0 with hz | hz
      case' isTrue => subst hz; go_wp2
      case' isFalse =>
        have hz2 : (L == 0) = false := by simpa using hz
        have HZ := Lib.hid hz
        clear hz
        go_wp2
    all_goals first
      | (refine bodyPost_ret (v := .tuple #[(Ck.mk (set2 0 p q 0) xi xd 0 0 false true).val (some ⟨g, 0, none⟩) c', .int .i64 0]) (by simp [results, Try.results117, go_sem, hcA, hc3, hc2, hc1, hz1a, hz1b, hz2a, hz2b, hz3a, hz3b, s5, ne1, ne2, ne3, ne4, ne5, ne6, Ck.val, Ck.cells, set2]) rfl ?_
         unfold CkRes
         rw [HP.out, HU.out]
         first | rw [if_pos rfl] | rw [if_pos trivial]
         refine ⟨_, _, rfl, ?_, ?_⟩
         · have k0 : OwnI (w5.setCell ⟨g, 0, none⟩ (.int .i64 0)) w2.heap.size (some ⟨g, 0, none⟩) c' (set2 0 p q 0) := HO5.out
           show OwnI _ _ (some ⟨g, 0, none⟩) c' (set2 0 p q 0)
           refine ownsRow_le (base := w2.heap.size) ?_ (by omega)
           repeat (first | (with_reducible exact k0) | (with_reducible refine World.ownsRow.alloc ?_ _) | ((with_reducible refine ownsRow_setCell_other ?_ ?_ _); rotate_left; (simp [Value.ownBlock]; omega)))
         · repeat (first | (with_reducible exact hW5) | ((with_reducible refine Below.alloc ?_ ?_ _); rotate_left; (simp <;> omega)) | ((with_reducible refine Below.setCell ?_ ?_ _); rotate_left; (simp <;> omega))))
      | (refine bodyPost_ret (v := .tuple #[(Ck.mk (set2 0 p q L) xi xd 0 xs true false).val (some ⟨g, 0, none⟩) c', .int .i64 0]) (by simp [results, Try.results117, go_sem, hcA, hc3, hc2, hc1, hz1a, hz1b, hz2a, hz2b, hz3a, hz3b, s5, ne1, ne2, ne3, ne4, ne5, ne6, Ck.val, Ck.cells, set2]) rfl ?_
         unfold CkRes
         rw [HP.out, HU.out, if_neg HZ.out]
         refine ⟨_, _, rfl, ?_, ?_⟩
         · have k0 : OwnI (w5.setCell ⟨g, 0, none⟩ (.int .i64 L)) w2.heap.size (some ⟨g, 0, none⟩) c' (set2 0 p q L) := HO5.out
           show OwnI _ _ (some ⟨g, 0, none⟩) c' (set2 0 p q L)
           refine ownsRow_le (base := w2.heap.size) ?_ (by omega)
           repeat (first | (with_reducible exact k0) | (with_reducible refine World.ownsRow.alloc ?_ _) | ((with_reducible refine ownsRow_setCell_other ?_ ?_ _); rotate_left; (simp [Value.ownBlock]; omega)))
         · repeat (first | (with_reducible exact hW5) | ((with_reducible refine Below.alloc ?_ ?_ _); rotate_left; (simp <;> omega)) | ((with_reducible refine Below.setCell ?_ ?_ _); rotate_left; (simp <;> omega))))
  · go_wp2_with fail
    refine (ckCopied_c ⟨[p, q], xi, xd, 1, xs, true, false⟩ _ c _ (h.below hW2 (Nat.le_refl _)) hm).mono ?_
    rintro e w3 ⟨a', c', rfl, ho3, hb3⟩
    have hW3 : Below w.heap.size w w3 := below_next hW2 hb3
    obtain ⟨hc3, hf3⟩ := bcell hb3
    have hz3b : w.heap.size + 1 < w3.heap.size := by have := hb3.size; omega
    have hz3a : w.heap.size < w3.heap.size := by omega
    obtain ⟨g, rfl, hg1, hg2, k0, k1, f0, f1, st0, st1⟩ := own_two ho3
    have ne1 : ¬ g = w3.heap.size := by omega
    have ne2 : ¬ w3.heap.size = g := by omega
    have ne3 : ¬ g = w.heap.size + 1 := by omega
    have ne4 : ¬ w.heap.size + 1 = g := by omega
    have ne5 : ¬ g = w.heap.size := by omega
    have ne6 : ¬ w.heap.size = g := by omega
    have HO3b := Lib.hid ho3
    have hS3 := Lib.hid hb3.size
    obtain ⟨T, hcall, hsub⟩ : ∃ T, (∀ W, Ints W a [p, q] → Calls Try.prog 126 #[(Ck.mk [p, q] xi xd 1 xs true false).val a c, .int .i64 now] W fun e w' => e = .returned (.int .i64 T) ∧ Below W.heap.size W w') ∧ q - T = leftQ ⟨[p, q], xi, xd, 1, xs, true, false⟩ p q now :=
      ⟨_, fun W hW => taken_c p q xi xd 1 xs false a c now W hW ⟨hp0, hp1⟩ ⟨hq0, hq1⟩ ⟨hd0, hd1⟩ ⟨hs0, hs1⟩ ⟨hn0, hn1⟩ ⟨by omega, by omega⟩, HT.out⟩
    have HCALL := Lib.hid hcall
    obtain ⟨L, hL⟩ : ∃ L, L = leftQ ⟨[p, q], xi, xd, 1, xs, true, false⟩ p q now := ⟨_, rfl⟩
    rw [← hL] at hsub
    have hL0 : 0 ≤ L ∧ L ≤ 36000000 := by
      rw [hL]; unfold leftQ pick2; simp; omega
    obtain ⟨hL0, hL1⟩ := hL0
    have es : IntKind.i64.wrap (q - T) = L := by rw [hsub]; exact IntWalk.i64_in _ (by omega)
    have HU := Lib.hid (show useQ ⟨[p, q], xi, xd, 1, xs, true, false⟩ p q now = if L = 0 then ⟨set2 1 p q 0, xi, xd, 1, 0, false, true⟩ else ⟨set2 1 p q L, xi, xd, 1, xs, true, false⟩ by unfold useQ; rw [← hL])
    clear st0 st1 ho3 hcall hL hsub
    go_wp2
    refine heldH (S := fun w' => ∀ b o, b < w3.heap.size + 1 → ¬ b = g → w'.cell? ⟨b, o, none⟩ = (w3.alloc (.cells (Ck.cells ⟨[p, q], xi, xd, 1, xs, true, false⟩ (some ⟨g, 0, none⟩) c') 53)).cell? ⟨b, o, none⟩) (n := 12) (listed := #[false, false, false, false, false, false, false, false, false, false, false, false]) (by kernel_rfl) (by rfl) (by rfl) ?_ (fun hHeld => ?_)
    (focus ((try dsimp only); (first | done | ((first | exact hcA | (intro b o h1 h2; rfl) | (intro b o h1 h2; exact (cell_other h2).trans (hcA b o h1 h2))); done))))
    (refine takeH (i := 0) (v := ?_) (by decide +kernel) (by decide +kernel) (by kernel_rfl) (by rfl) (by exact fun _ _ _ h => h) (by rfl) ?_ (by assumption) ?_); rotate_left; (focus (intro w hSw; (try dsimp only at hSw); go_simp; (try with_reducible rfl); done)); (try simp only [Act.put, List.setIfInBounds_toArray, List.set_cons_zero, List.set_cons_succ])
    (refine takeH (i := 1) (v := ?_) (by decide +kernel) (by decide +kernel) (by kernel_rfl) (by rfl) (by exact fun _ _ _ h => h) (by rfl) ?_ (by assumption) ?_); rotate_left; (focus (intro w hSw; (try dsimp only at hSw); go_simp; (try with_reducible rfl); done)); (try simp only [Act.put, List.setIfInBounds_toArray, List.set_cons_zero, List.set_cons_succ])
    (refine takeH (i := 2) (v := ?_) (by decide +kernel) (by decide +kernel) (by kernel_rfl) (by rfl) (by exact fun _ _ _ h => h) (by rfl) ?_ (by assumption) ?_); rotate_left; (focus (intro w hSw; (try dsimp only at hSw); go_simp; (try with_reducible rfl); done)); (try simp only [Act.put, List.setIfInBounds_toArray, List.set_cons_zero, List.set_cons_succ])
    (refine takeH (i := 3) (v := ?_) (by decide +kernel) (by decide +kernel) (by kernel_rfl) (by rfl) (by exact fun _ _ _ h => h) (by rfl) ?_ (by assumption) ?_); rotate_left; (focus (intro w hSw; (try dsimp only at hSw); go_simp; (try with_reducible rfl); done)); (try simp only [Act.put, List.setIfInBounds_toArray, List.set_cons_zero, List.set_cons_succ])
    (refine takeH (i := 4) (v := ?_) (by decide +kernel) (by decide +kernel) (by kernel_rfl) (by rfl) (by exact fun _ _ _ h => h) (by rfl) ?_ (by assumption) ?_); rotate_left; (focus (intro w hSw; (try dsimp only at hSw); go_simp; (try with_reducible rfl); done)); (try simp only [Act.put, List.setIfInBounds_toArray, List.set_cons_zero, List.set_cons_succ])
    (refine takeH (i := 6) (v := ?_) (by decide +kernel) (by decide +kernel) (by kernel_rfl) (by rfl) (by exact fun _ _ _ h => h) (by rfl) ?_ (by assumption) ?_); rotate_left; (focus (intro w hSw; (try dsimp only at hSw); go_simp; (try with_reducible rfl); done)); (try simp only [Act.put, List.setIfInBounds_toArray, List.set_cons_zero, List.set_cons_succ])
    (refine takeH (i := 7) (v := ?_) (by decide +kernel) (by decide +kernel) (by kernel_rfl) (by rfl) (by exact fun _ _ _ h => h) (by rfl) ?_ (by assumption) ?_); rotate_left; (focus (intro w hSw; (try dsimp only at hSw); go_simp; (try with_reducible rfl); done)); (try simp only [Act.put, List.setIfInBounds_toArray, List.set_cons_zero, List.set_cons_succ])
    refine bothH (i := 5) (j := 8) (by decide +kernel) (by rfl) (by rfl) (by rfl) (by rfl) (fun K hK => ?_) (fun K hK => ?_)
    go_simp
    (first | (go_at_call 126; refine (HCALL.out _ (h.below ((hW3.alloc (by omega) _).drew) (Nat.le_refl _))).mono ?_; rintro e w5 ⟨rfl, hb5⟩; have hcA : ∀ b o, b < w3.heap.size + 1 → ¬ b = g → w5.cell? ⟨b, o, none⟩ = (w3.alloc (.cells (Ck.cells ⟨[p, q], xi, xd, 1, xs, true, false⟩ (some ⟨g, 0, none⟩) c') 53)).cell? ⟨b, o, none⟩ := fun b o h1 h2 => (bcell hb5).1 b o (by simpa using h1); have kg0 : w5.cell? ⟨g, 0, none⟩ = some (.int .i64 p) := ((bcell hb5).1 g 0 (Nat.lt_of_lt_of_le hg2 (by simp))).trans (by simp [go_sem, hg2, k0]); have kg1 : w5.cell? ⟨g, 1, none⟩ = some (.int .i64 q) := ((bcell hb5).1 g 1 (Nat.lt_of_lt_of_le hg2 (by simp))).trans (by simp [go_sem, hg2, k1]); have fg0 : w5.frozen? ⟨g, 0, none⟩ = false := ((bcell hb5).2 g 0 (Nat.lt_of_lt_of_le hg2 (by simp))).trans (by simp [go_sem, hg2, f0]); have fg1 : w5.frozen? ⟨g, 1, none⟩ = false := ((bcell hb5).2 g 1 (Nat.lt_of_lt_of_le hg2 (by simp))).trans (by simp [go_sem, hg2, f1])) | skip)
    refine hK.out _ _ ?_ (fun hHeld' => ?_)
    (focus ((try dsimp only); (first | done | ((first | exact hcA | (intro b o h1 h2; rfl) | (intro b o h1 h2; exact (cell_other h2).trans (hcA b o h1 h2))); done))))
    clear hK K hHeld
    have hHeld := hHeld'
    clear hHeld'
    (try simp only [Act.put, List.setIfInBounds_toArray, List.set_cons_zero, List.set_cons_succ])
    refine nextH (i := 8) (by decide +kernel) (by rfl) (by rfl) (fun K hK => ?_)
    go_simp
    (first | (go_at_call 126; refine (HCALL.out _ (h.below ((hW3.alloc (by omega) _).drew) (Nat.le_refl _))).mono ?_; rintro e w5 ⟨rfl, hb5⟩; have hcA : ∀ b o, b < w3.heap.size + 1 → ¬ b = g → w5.cell? ⟨b, o, none⟩ = (w3.alloc (.cells (Ck.cells ⟨[p, q], xi, xd, 1, xs, true, false⟩ (some ⟨g, 0, none⟩) c') 53)).cell? ⟨b, o, none⟩ := fun b o h1 h2 => (bcell hb5).1 b o (by simpa using h1); have kg0 : w5.cell? ⟨g, 0, none⟩ = some (.int .i64 p) := ((bcell hb5).1 g 0 (Nat.lt_of_lt_of_le hg2 (by simp))).trans (by simp [go_sem, hg2, k0]); have kg1 : w5.cell? ⟨g, 1, none⟩ = some (.int .i64 q) := ((bcell hb5).1 g 1 (Nat.lt_of_lt_of_le hg2 (by simp))).trans (by simp [go_sem, hg2, k1]); have fg0 : w5.frozen? ⟨g, 0, none⟩ = false := ((bcell hb5).2 g 0 (Nat.lt_of_lt_of_le hg2 (by simp))).trans (by simp [go_sem, hg2, f0]); have fg1 : w5.frozen? ⟨g, 1, none⟩ = false := ((bcell hb5).2 g 1 (Nat.lt_of_lt_of_le hg2 (by simp))).trans (by simp [go_sem, hg2, f1])) | skip)
    refine hK.out _ _ ?_ (fun hHeld' => ?_)
    (focus ((try dsimp only); (first | done | ((first | exact hcA | (intro b o h1 h2; rfl) | (intro b o h1 h2; exact (cell_other h2).trans (hcA b o h1 h2))); done))))
    clear hK K hHeld
    have hHeld := hHeld'
    clear hHeld'
    (try simp only [Act.put, List.setIfInBounds_toArray, List.set_cons_zero, List.set_cons_succ])
    (refine takeH (i := 9) (v := ?_) (by decide +kernel) (by decide +kernel) (by kernel_rfl) (by rfl) (by exact fun _ _ _ h => h) (by rfl) ?_ (by assumption) ?_); rotate_left; (focus (intro w hSw; (try dsimp only at hSw); go_simp; (try with_reducible rfl); done)); (try simp only [Act.put, List.setIfInBounds_toArray, List.set_cons_zero, List.set_cons_succ])
    (refine takeH (i := 10) (v := ?_) (by decide +kernel) (by decide +kernel) (by kernel_rfl) (by rfl) (by exact fun _ _ _ h => h) (by rfl) ?_ (by assumption) ?_); rotate_left; (focus (intro w hSw; (try dsimp only at hSw); go_simp; (try with_reducible rfl); done)); (try simp only [Act.put, List.setIfInBounds_toArray, List.set_cons_zero, List.set_cons_succ])
    refine nextH (i := 11) (by decide +kernel) (by rfl) (by rfl) (fun K hK => ?_)
    go_simp
    (first | (go_at_call 126; refine (HCALL.out _ (h.below ((hW3.alloc (by omega) _).drew) (Nat.le_refl _))).mono ?_; rintro e w5 ⟨rfl, hb5⟩; have hcA : ∀ b o, b < w3.heap.size + 1 → ¬ b = g → w5.cell? ⟨b, o, none⟩ = (w3.alloc (.cells (Ck.cells ⟨[p, q], xi, xd, 1, xs, true, false⟩ (some ⟨g, 0, none⟩) c') 53)).cell? ⟨b, o, none⟩ := fun b o h1 h2 => (bcell hb5).1 b o (by simpa using h1); have kg0 : w5.cell? ⟨g, 0, none⟩ = some (.int .i64 p) := ((bcell hb5).1 g 0 (Nat.lt_of_lt_of_le hg2 (by simp))).trans (by simp [go_sem, hg2, k0]); have kg1 : w5.cell? ⟨g, 1, none⟩ = some (.int .i64 q) := ((bcell hb5).1 g 1 (Nat.lt_of_lt_of_le hg2 (by simp))).trans (by simp [go_sem, hg2, k1]); have fg0 : w5.frozen? ⟨g, 0, none⟩ = false := ((bcell hb5).2 g 0 (Nat.lt_of_lt_of_le hg2 (by simp))).trans (by simp [go_sem, hg2, f0]); have fg1 : w5.frozen? ⟨g, 1, none⟩ = false := ((bcell hb5).2 g 1 (Nat.lt_of_lt_of_le hg2 (by simp))).trans (by simp [go_sem, hg2, f1])) | skip)
    refine hK.out _ _ ?_ (fun hHeld' => ?_)
    (focus ((try dsimp only); (first | done | ((first | exact hcA | (intro b o h1 h2; rfl) | (intro b o h1 h2; exact (cell_other h2).trans (hcA b o h1 h2))); done))))
    clear hK K hHeld
    have hHeld := hHeld'
    clear hHeld'
    (try simp only [Act.put, List.setIfInBounds_toArray, List.set_cons_zero, List.set_cons_succ])
    refine wpAnyH_done (by decide +kernel) ?_ _
    rotate_left
    go_simp
    (first | (go_at_call 126; refine (HCALL.out _ (h.below ((hW3.alloc (by omega) _).drew) (Nat.le_refl _))).mono ?_; rintro e w5 ⟨rfl, hb5⟩; have hcA : ∀ b o, b < w3.heap.size + 1 → ¬ b = g → w5.cell? ⟨b, o, none⟩ = (w3.alloc (.cells (Ck.cells ⟨[p, q], xi, xd, 1, xs, true, false⟩ (some ⟨g, 0, none⟩) c') 53)).cell? ⟨b, o, none⟩ := fun b o h1 h2 => (bcell hb5).1 b o (by simpa using h1); have kg0 : w5.cell? ⟨g, 0, none⟩ = some (.int .i64 p) := ((bcell hb5).1 g 0 (Nat.lt_of_lt_of_le hg2 (by simp))).trans (by simp [go_sem, hg2, k0]); have kg1 : w5.cell? ⟨g, 1, none⟩ = some (.int .i64 q) := ((bcell hb5).1 g 1 (Nat.lt_of_lt_of_le hg2 (by simp))).trans (by simp [go_sem, hg2, k1]); have fg0 : w5.frozen? ⟨g, 0, none⟩ = false := ((bcell hb5).2 g 0 (Nat.lt_of_lt_of_le hg2 (by simp))).trans (by simp [go_sem, hg2, f0]); have fg1 : w5.frozen? ⟨g, 1, none⟩ = false := ((bcell hb5).2 g 1 (Nat.lt_of_lt_of_le hg2 (by simp))).trans (by simp [go_sem, hg2, f1])) | skip)
    refine hK.out _ _ ?_ (fun hHeld' => ?_)
    (focus ((try dsimp only); (first | done | ((first | exact hcA | (intro b o h1 h2; rfl) | (intro b o h1 h2; exact (cell_other h2).trans (hcA b o h1 h2))); done))))
    clear hK K hHeld
    have hHeld := hHeld'
    clear hHeld'
    (try simp only [Act.put, List.setIfInBounds_toArray, List.set_cons_zero, List.set_cons_succ])
    refine nextH (i := 5) (by decide +kernel) (by rfl) (by rfl) (fun K hK => ?_)
    go_simp
    (first | (go_at_call 126; refine (HCALL.out _ (h.below ((hW3.alloc (by omega) _).drew) (Nat.le_refl _))).mono ?_; rintro e w5 ⟨rfl, hb5⟩; have hcA : ∀ b o, b < w3.heap.size + 1 → ¬ b = g → w5.cell? ⟨b, o, none⟩ = (w3.alloc (.cells (Ck.cells ⟨[p, q], xi, xd, 1, xs, true, false⟩ (some ⟨g, 0, none⟩) c') 53)).cell? ⟨b, o, none⟩ := fun b o h1 h2 => (bcell hb5).1 b o (by simpa using h1); have kg0 : w5.cell? ⟨g, 0, none⟩ = some (.int .i64 p) := ((bcell hb5).1 g 0 (Nat.lt_of_lt_of_le hg2 (by simp))).trans (by simp [go_sem, hg2, k0]); have kg1 : w5.cell? ⟨g, 1, none⟩ = some (.int .i64 q) := ((bcell hb5).1 g 1 (Nat.lt_of_lt_of_le hg2 (by simp))).trans (by simp [go_sem, hg2, k1]); have fg0 : w5.frozen? ⟨g, 0, none⟩ = false := ((bcell hb5).2 g 0 (Nat.lt_of_lt_of_le hg2 (by simp))).trans (by simp [go_sem, hg2, f0]); have fg1 : w5.frozen? ⟨g, 1, none⟩ = false := ((bcell hb5).2 g 1 (Nat.lt_of_lt_of_le hg2 (by simp))).trans (by simp [go_sem, hg2, f1])) | skip)
    refine hK.out _ _ ?_ (fun hHeld' => ?_)
    (focus ((try dsimp only); (first | done | ((first | exact hcA | (intro b o h1 h2; rfl) | (intro b o h1 h2; exact (cell_other h2).trans (hcA b o h1 h2))); done))))
    clear hK K hHeld
    have hHeld := hHeld'
    clear hHeld'
    (try simp only [Act.put, List.setIfInBounds_toArray, List.set_cons_zero, List.set_cons_succ])
    (refine takeH (i := 9) (v := ?_) (by decide +kernel) (by decide +kernel) (by kernel_rfl) (by rfl) (by exact fun _ _ _ h => h) (by rfl) ?_ (by assumption) ?_); rotate_left; (focus (intro w hSw; (try dsimp only at hSw); go_simp; (try with_reducible rfl); done)); (try simp only [Act.put, List.setIfInBounds_toArray, List.set_cons_zero, List.set_cons_succ])
    (refine takeH (i := 10) (v := ?_) (by decide +kernel) (by decide +kernel) (by kernel_rfl) (by rfl) (by exact fun _ _ _ h => h) (by rfl) ?_ (by assumption) ?_); rotate_left; (focus (intro w hSw; (try dsimp only at hSw); go_simp; (try with_reducible rfl); done)); (try simp only [Act.put, List.setIfInBounds_toArray, List.set_cons_zero, List.set_cons_succ])
    refine nextH (i := 11) (by decide +kernel) (by rfl) (by rfl) (fun K hK => ?_)
    go_simp
    (first | (go_at_call 126; refine (HCALL.out _ (h.below ((hW3.alloc (by omega) _).drew) (Nat.le_refl _))).mono ?_; rintro e w5 ⟨rfl, hb5⟩; have hcA : ∀ b o, b < w3.heap.size + 1 → ¬ b = g → w5.cell? ⟨b, o, none⟩ = (w3.alloc (.cells (Ck.cells ⟨[p, q], xi, xd, 1, xs, true, false⟩ (some ⟨g, 0, none⟩) c') 53)).cell? ⟨b, o, none⟩ := fun b o h1 h2 => (bcell hb5).1 b o (by simpa using h1); have kg0 : w5.cell? ⟨g, 0, none⟩ = some (.int .i64 p) := ((bcell hb5).1 g 0 (Nat.lt_of_lt_of_le hg2 (by simp))).trans (by simp [go_sem, hg2, k0]); have kg1 : w5.cell? ⟨g, 1, none⟩ = some (.int .i64 q) := ((bcell hb5).1 g 1 (Nat.lt_of_lt_of_le hg2 (by simp))).trans (by simp [go_sem, hg2, k1]); have fg0 : w5.frozen? ⟨g, 0, none⟩ = false := ((bcell hb5).2 g 0 (Nat.lt_of_lt_of_le hg2 (by simp))).trans (by simp [go_sem, hg2, f0]); have fg1 : w5.frozen? ⟨g, 1, none⟩ = false := ((bcell hb5).2 g 1 (Nat.lt_of_lt_of_le hg2 (by simp))).trans (by simp [go_sem, hg2, f1])) | skip)
    refine hK.out _ _ ?_ (fun hHeld' => ?_)
    (focus ((try dsimp only); (first | done | ((first | exact hcA | (intro b o h1 h2; rfl) | (intro b o h1 h2; exact (cell_other h2).trans (hcA b o h1 h2))); done))))
    clear hK K hHeld
    have hHeld := hHeld'
    clear hHeld'
    (try simp only [Act.put, List.setIfInBounds_toArray, List.set_cons_zero, List.set_cons_succ])
    refine wpAnyH_done (by decide +kernel) ?_ _
    all_goals
      have hf5 := (bcell hb5).2
      have hW5 : Below w.heap.size w w5 := below_next (hW3.alloc (by omega) _).drew hb5
      have s5 : w3.heap.size < w5.heap.size := by have := hb5.size; simp at this; omega
      have HO5 : OwnI (w5.setCell ⟨g, 1, none⟩ (.int .i64 L)) w2.heap.size (some ⟨g, 0, none⟩) c' (set2 1 p q L) := by
        have k0 := (own_two ((show OwnI (w3.alloc (.cells (Ck.cells ⟨[p, q], xi, xd, 1, xs, true, false⟩ (some ⟨g, 0, none⟩) c') 53)).drew w2.heap.size (some ⟨g, 0, none⟩) c' [p, q] from HO3b.out.alloc _) |> (own_below · hb5 (Nat.le_refl _))))
        obtain ⟨g', hg', _, _, _, _, _, _, st0, st1⟩ := k0
        cases hg'
        exact st1 L
      have HO5 := Lib.hid HO5
      clear hb5 HCALL
      rcases Int.decEq L 0 with hz | hz
      case' isTrue => subst hz; go_wp2
      case' isFalse =>
        have hz2 : (L == 0) = false := by simpa using hz
        have HZ := Lib.hid hz
        clear hz
        go_wp2
    all_goals first
      | (refine bodyPost_ret (v := .tuple #[(Ck.mk (set2 1 p q 0) xi xd 1 0 false true).val (some ⟨g, 0, none⟩) c', .int .i64 0]) (by simp [results, Try.results117, go_sem, hcA, hc3, hc2, hc1, hz1a, hz1b, hz2a, hz2b, hz3a, hz3b, s5, ne1, ne2, ne3, ne4, ne5, ne6, Ck.val, Ck.cells, set2]) rfl ?_
         unfold CkRes
         rw [HP.out, HU.out]
         first | rw [if_pos rfl] | rw [if_pos trivial]
         refine ⟨_, _, rfl, ?_, ?_⟩
         · have k0 : OwnI (w5.setCell ⟨g, 1, none⟩ (.int .i64 0)) w2.heap.size (some ⟨g, 0, none⟩) c' (set2 1 p q 0) := HO5.out
           show OwnI _ _ (some ⟨g, 0, none⟩) c' (set2 1 p q 0)
           refine ownsRow_le (base := w2.heap.size) ?_ (by omega)
           repeat (first | (with_reducible exact k0) | (with_reducible refine World.ownsRow.alloc ?_ _) | ((with_reducible refine ownsRow_setCell_other ?_ ?_ _); rotate_left; (simp [Value.ownBlock]; omega)))
         · repeat (first | (with_reducible exact hW5) | ((with_reducible refine Below.alloc ?_ ?_ _); rotate_left; (simp <;> omega)) | ((with_reducible refine Below.setCell ?_ ?_ _); rotate_left; (simp <;> omega))))
      | (refine bodyPost_ret (v := .tuple #[(Ck.mk (set2 1 p q L) xi xd 1 xs true false).val (some ⟨g, 0, none⟩) c', .int .i64 0]) (by simp [results, Try.results117, go_sem, hcA, hc3, hc2, hc1, hz1a, hz1b, hz2a, hz2b, hz3a, hz3b, s5, ne1, ne2, ne3, ne4, ne5, ne6, Ck.val, Ck.cells, set2]) rfl ?_
         unfold CkRes
         rw [HP.out, HU.out, if_neg HZ.out]
         refine ⟨_, _, rfl, ?_, ?_⟩
         · have k0 : OwnI (w5.setCell ⟨g, 1, none⟩ (.int .i64 L)) w2.heap.size (some ⟨g, 0, none⟩) c' (set2 1 p q L) := HO5.out
           show OwnI _ _ (some ⟨g, 0, none⟩) c' (set2 1 p q L)
           refine ownsRow_le (base := w2.heap.size) ?_ (by omega)
           repeat (first | (with_reducible exact k0) | (with_reducible refine World.ownsRow.alloc ?_ _) | ((with_reducible refine ownsRow_setCell_other ?_ ?_ _); rotate_left; (simp [Value.ownBlock]; omega)))
         · repeat (first | (with_reducible exact hW5) | ((with_reducible refine Below.alloc ?_ ?_ _); rotate_left; (simp <;> omega)) | ((with_reducible refine Below.setCell ?_ ?_ _); rotate_left; (simp <;> omega))))

end Go.Proofs.Ytbjdfgfebepacaa
